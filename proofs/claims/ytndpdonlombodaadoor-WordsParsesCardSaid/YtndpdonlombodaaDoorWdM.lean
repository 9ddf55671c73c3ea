/- The reference's Line and Print. -/
import Derived.Test.YtndpdonlombodaaDoorWdS
import Derived.BigQuiet
namespace Go.Proofs.YtndpdonlombodaaDoor
open Go.RowKit Law
set_option linter.unusedVariables false
set_option linter.unusedSimpArgs false

theorem refGoodV (x : Ac) (A : Option Addr) (len c : Nat) (v : Bool) (hv : goodA x = v) (w : World) (hA : U8At w A x.b) (hn : x.b.length = len) :
    Calls Tryd.prog 16 #[.agg (x.cells A len c).toArray] w fun e w' => e = .returned (.bool v) ∧ Below w.heap.size w w' := by
  subst hv; exact refGoodA x A len c w hA hn
theorem ret_arr {a b : ByteArray} (h : a.data.toList = b.data.toList) : Ending.returned (.string a) = .returned (.string b) := by
  rw [show a = b from ByteArray.ext (Array.ext' h)]
set_option maxHeartbeats 6400000 in
set_option maxRecDepth 100000 in
theorem refLine_1 (n : Int) (hg : goodA ⟨1, 0, n, Fa0, []⟩ = true) (A : Option Addr) (len c : Nat) (w : World) (hA : U8At w A []) (hn : ([] : List UInt8).length = len) (h0 : 0 < n) (h1 : n < 65) :
    Calls Tryd.prog 9 #[.agg (Ac.cells ⟨1, 0, n, Fa0, []⟩ A len c).toArray] w fun e w' => e = .returned (.string ⟨(lineL ⟨1, 0, n, Fa0, []⟩).toArray⟩) ∧ Below w.heap.size w w' := by
  have hb1 : Below w.heap.size w (w.alloc (.cells (Ac.cells ⟨1, 0, n, Fa0, []⟩ A len c).toArray 29)) := (Below.refl _ _).alloc (Nat.le_refl _) _
  have C1 := refGoodV ⟨1, 0, n, Fa0, []⟩ A len c true hg _ (hA.keep hb1) hn
  have HX := Lib.hid (And.intro hb1 (And.intro (boxAt_made w (Ac.cells ⟨1, 0, n, Fa0, []⟩ A len c) 29) hA))
  have HL := Lib.hid (congrArg (fun z : List UInt8 => z) (lineL_good hg))
  have hl0 := itoa_len (n := 0) (by omega) (by omega)
  have CD := Lib.hid (fun W => digits06 0 (by omega) (by omega) W)
  unfold Ac.cells Fa0 at C1
  have C1 := Lib.hid C1
  have HN := Lib.hid hn
  clear hb1 hA hg hn
  unfold Ac.cells Fa0
  have hl1 := itoa_len (n := n) (by omega) (by omega)
  go_enter Tryd.func9, Tryd.ntmps9
  go_wp2_with fail
  refine C1.out.mono ?_
  rintro e w1 ⟨rfl, hq⟩
  have hbx := HX.out.2.1.keep hq
  have hb2 := HX.out.1.trans (hq.mono HX.out.1.size)
  have r0 := hbx 0 _ rfl
  have r1 := hbx 1 _ rfl
  have r2 := hbx 2 _ rfl
  have r3 := hbx 3 _ rfl
  have r4 := hbx 4 _ rfl
  have r5 := hbx 5 _ rfl
  have r6 := hbx 6 _ rfl
  have r7 := hbx 7 _ rfl
  have r8 := hbx 8 _ rfl
  have HST : Hid (∀ W, Below w1.heap.size w1 W → Below w1.heap.size w1 W ∧ W.cell? ⟨w.heap.size, 1, none⟩ = some (.int .i64 (0)) ∧ W.cell? ⟨w.heap.size, 3, none⟩ = some (.int .i64 0) ∧ W.cell? ⟨w.heap.size, 4, none⟩ = some (.int .i64 0) ∧ W.cell? ⟨w.heap.size, 5, none⟩ = some (.int .i64 0) ∧ W.cell? ⟨w.heap.size, 6, none⟩ = some (.int .u32 0) ∧ W.cell? ⟨w.heap.size, 7, none⟩ = some (.int .u32 0)) := fun W hW =>
    ⟨hW, hbx.keep hW 1 _ rfl, hbx.keep hW 3 _ rfl, hbx.keep hW 4 _ rfl, hbx.keep hW 5 _ rfl, hbx.keep hW 6 _ rfl, hbx.keep hW 7 _ rfl⟩
  have hnew := World.new_ne w1 ⟨w.heap.size, 0, none⟩ r0
  have hbW : Below w1.heap.size w1 (w1.alloc (.cells #[.int .i64 0, .int .i64 0, .int .i64 0, .int .u32 0, .int .u32 0] 26)).drew := ((Below.refl _ _).alloc (Nat.le_refl _) _).drew
  obtain ⟨W2, hW2⟩ : ∃ W2, (w1.alloc (.cells #[.int .i64 0, .int .i64 0, .int .i64 0, .int .u32 0, .int .u32 0] 26)).drew = W2 := ⟨_, rfl⟩
  have f0 : W2.cell? ⟨w1.heap.size, 0, none⟩ = some (.int .i64 0) := by rw [← hW2]; simp
  have f1 : W2.cell? ⟨w1.heap.size, 1, none⟩ = some (.int .i64 0) := by rw [← hW2]; simp
  have f2 : W2.cell? ⟨w1.heap.size, 2, none⟩ = some (.int .i64 0) := by rw [← hW2]; simp
  have f3 : W2.cell? ⟨w1.heap.size, 3, none⟩ = some (.int .u32 0) := by rw [← hW2]; simp
  have f4 : W2.cell? ⟨w1.heap.size, 4, none⟩ = some (.int .u32 0) := by rw [← hW2]; simp
  rw [hW2] at hbW
  have s0 := hbx.keep hbW 0 _ rfl
  have s2 := hbx.keep hbW 2 _ rfl
  have s8 := hbx.keep hbW 8 _ rfl
  have HW := Lib.hid (And.intro hW2 (And.intro (hb2.trans (Below.mono hbW hb2.size)) (HX.out.2.2.keep hb2 |>.keep hbW)))
  have HB := Lib.hid (And.intro hb2 hbx)
  clear hq hbx hb2 hbW hW2
  go_wp2_with fail
  go_region_held (fun W => Below w1.heap.size w1 W ∧ W.cell? ⟨w.heap.size, 1, none⟩ = some (.int .i64 (0)) ∧ W.cell? ⟨w.heap.size, 3, none⟩ = some (.int .i64 0) ∧ W.cell? ⟨w.heap.size, 4, none⟩ = some (.int .i64 0) ∧ W.cell? ⟨w.heap.size, 5, none⟩ = some (.int .i64 0) ∧ W.cell? ⟨w.heap.size, 6, none⟩ = some (.int .u32 0) ∧ W.cell? ⟨w.heap.size, 7, none⟩ = some (.int .u32 0))
    (first
      | exact HST.out _ (Below.refl _ _).drew
      | exact HST.out _ ((Below.refl _ _).alloc (Nat.le_refl _) _).drew
      | exact HST.out _ ((Below.refl _ _).drew.alloc (Nat.le_refl _) _)
      | (go_split_ands; refine ⟨?_, ?_, ?_, ?_, ?_, ?_, ?_⟩ <;> assumption)
      | (go_split_ands; exact HST.out _ (Below.alloc (by assumption) (Below.size (by assumption)) _)))
    (first
      | (go_at_call 21; (with_reducible refine (CD.out _).mono ?_); rintro e w5 ⟨rfl, rfl⟩))
  all_goals
    rw [HW.out.1]
    go_wp2_with (go_at_call 21; refine (digits06 n (by omega) (by omega) _).mono ?_; rintro e w5 ⟨rfl, rfl⟩)
    go_ret
    refine ⟨ret_arr (Eq.trans ?_ HL.out.symm), ?_⟩
    · simp [joinBy, wordsOf, wTick]
    · exact HW.out.2.1
set_option maxHeartbeats 6400000 in
set_option maxRecDepth 100000 in
theorem refLine_2 (i n : Int) (hg : goodA ⟨2, i, n, Fa0, []⟩ = true) (A : Option Addr) (len c : Nat) (w : World) (hA : U8At w A []) (hn : ([] : List UInt8).length = len) (h0 : 0 ≤ i) (h1 : i ≤ 63) (h2 : -1048576 ≤ n) (h3 : n ≤ 1048576) :
    Calls Tryd.prog 9 #[.agg (Ac.cells ⟨2, i, n, Fa0, []⟩ A len c).toArray] w fun e w' => e = .returned (.string ⟨(lineL ⟨2, i, n, Fa0, []⟩).toArray⟩) ∧ Below w.heap.size w w' := by
  have hb1 : Below w.heap.size w (w.alloc (.cells (Ac.cells ⟨2, i, n, Fa0, []⟩ A len c).toArray 29)) := (Below.refl _ _).alloc (Nat.le_refl _) _
  have C1 := refGoodV ⟨2, i, n, Fa0, []⟩ A len c true hg _ (hA.keep hb1) hn
  have HX := Lib.hid (And.intro hb1 (And.intro (boxAt_made w (Ac.cells ⟨2, i, n, Fa0, []⟩ A len c) 29) hA))
  have HL := Lib.hid (congrArg (fun z : List UInt8 => z) (lineL_good hg))
  have hl0 := itoa_len (n := i) (by omega) (by omega)
  have CD := Lib.hid (fun W => digits06 i (by omega) (by omega) W)
  unfold Ac.cells Fa0 at C1
  have C1 := Lib.hid C1
  have HN := Lib.hid hn
  clear hb1 hA hg hn
  unfold Ac.cells Fa0
  have hl1 := itoa_len (n := n) (by omega) (by omega)
  go_enter Tryd.func9, Tryd.ntmps9
  go_wp2_with fail
  refine C1.out.mono ?_
  rintro e w1 ⟨rfl, hq⟩
  have hbx := HX.out.2.1.keep hq
  have hb2 := HX.out.1.trans (hq.mono HX.out.1.size)
  have r0 := hbx 0 _ rfl
  have r1 := hbx 1 _ rfl
  have r2 := hbx 2 _ rfl
  have r3 := hbx 3 _ rfl
  have r4 := hbx 4 _ rfl
  have r5 := hbx 5 _ rfl
  have r6 := hbx 6 _ rfl
  have r7 := hbx 7 _ rfl
  have r8 := hbx 8 _ rfl
  have HST : Hid (∀ W, Below w1.heap.size w1 W → Below w1.heap.size w1 W ∧ W.cell? ⟨w.heap.size, 1, none⟩ = some (.int .i64 (i)) ∧ W.cell? ⟨w.heap.size, 3, none⟩ = some (.int .i64 0) ∧ W.cell? ⟨w.heap.size, 4, none⟩ = some (.int .i64 0) ∧ W.cell? ⟨w.heap.size, 5, none⟩ = some (.int .i64 0) ∧ W.cell? ⟨w.heap.size, 6, none⟩ = some (.int .u32 0) ∧ W.cell? ⟨w.heap.size, 7, none⟩ = some (.int .u32 0)) := fun W hW =>
    ⟨hW, hbx.keep hW 1 _ rfl, hbx.keep hW 3 _ rfl, hbx.keep hW 4 _ rfl, hbx.keep hW 5 _ rfl, hbx.keep hW 6 _ rfl, hbx.keep hW 7 _ rfl⟩
  have hnew := World.new_ne w1 ⟨w.heap.size, 0, none⟩ r0
  have hbW : Below w1.heap.size w1 (w1.alloc (.cells #[.int .i64 0, .int .i64 0, .int .i64 0, .int .u32 0, .int .u32 0] 26)).drew := ((Below.refl _ _).alloc (Nat.le_refl _) _).drew
  obtain ⟨W2, hW2⟩ : ∃ W2, (w1.alloc (.cells #[.int .i64 0, .int .i64 0, .int .i64 0, .int .u32 0, .int .u32 0] 26)).drew = W2 := ⟨_, rfl⟩
  have f0 : W2.cell? ⟨w1.heap.size, 0, none⟩ = some (.int .i64 0) := by rw [← hW2]; simp
  have f1 : W2.cell? ⟨w1.heap.size, 1, none⟩ = some (.int .i64 0) := by rw [← hW2]; simp
  have f2 : W2.cell? ⟨w1.heap.size, 2, none⟩ = some (.int .i64 0) := by rw [← hW2]; simp
  have f3 : W2.cell? ⟨w1.heap.size, 3, none⟩ = some (.int .u32 0) := by rw [← hW2]; simp
  have f4 : W2.cell? ⟨w1.heap.size, 4, none⟩ = some (.int .u32 0) := by rw [← hW2]; simp
  rw [hW2] at hbW
  have s0 := hbx.keep hbW 0 _ rfl
  have s2 := hbx.keep hbW 2 _ rfl
  have s8 := hbx.keep hbW 8 _ rfl
  have HW := Lib.hid (And.intro hW2 (And.intro (hb2.trans (Below.mono hbW hb2.size)) (HX.out.2.2.keep hb2 |>.keep hbW)))
  have HB := Lib.hid (And.intro hb2 hbx)
  clear hq hbx hb2 hbW hW2
  go_wp2_with fail
  go_region_held (fun W => Below w1.heap.size w1 W ∧ W.cell? ⟨w.heap.size, 1, none⟩ = some (.int .i64 (i)) ∧ W.cell? ⟨w.heap.size, 3, none⟩ = some (.int .i64 0) ∧ W.cell? ⟨w.heap.size, 4, none⟩ = some (.int .i64 0) ∧ W.cell? ⟨w.heap.size, 5, none⟩ = some (.int .i64 0) ∧ W.cell? ⟨w.heap.size, 6, none⟩ = some (.int .u32 0) ∧ W.cell? ⟨w.heap.size, 7, none⟩ = some (.int .u32 0))
    (first
      | exact HST.out _ (Below.refl _ _).drew
      | exact HST.out _ ((Below.refl _ _).alloc (Nat.le_refl _) _).drew
      | exact HST.out _ ((Below.refl _ _).drew.alloc (Nat.le_refl _) _)
      | (go_split_ands; refine ⟨?_, ?_, ?_, ?_, ?_, ?_, ?_⟩ <;> assumption)
      | (go_split_ands; exact HST.out _ (Below.alloc (by assumption) (Below.size (by assumption)) _)))
    (first
      | (go_at_call 21; (with_reducible refine (CD.out _).mono ?_); rintro e w5 ⟨rfl, rfl⟩))
  all_goals
    rw [HW.out.1]
    go_wp2_with (go_at_call 21; refine (digits06 n (by omega) (by omega) _).mono ?_; rintro e w5 ⟨rfl, rfl⟩)
    go_ret
    refine ⟨ret_arr (Eq.trans ?_ HL.out.symm), ?_⟩
    · simp [joinBy, wordsOf, wDrift]
    · exact HW.out.2.1
set_option maxHeartbeats 6400000 in
set_option maxRecDepth 100000 in
theorem refLine_4 (i : Int) (hg : goodA ⟨4, i, 0, Fa0, []⟩ = true) (A : Option Addr) (len c : Nat) (w : World) (hA : U8At w A []) (hn : ([] : List UInt8).length = len) (h0 : 0 ≤ i) (h1 : i ≤ 63) :
    Calls Tryd.prog 9 #[.agg (Ac.cells ⟨4, i, 0, Fa0, []⟩ A len c).toArray] w fun e w' => e = .returned (.string ⟨(lineL ⟨4, i, 0, Fa0, []⟩).toArray⟩) ∧ Below w.heap.size w w' := by
  have hb1 : Below w.heap.size w (w.alloc (.cells (Ac.cells ⟨4, i, 0, Fa0, []⟩ A len c).toArray 29)) := (Below.refl _ _).alloc (Nat.le_refl _) _
  have C1 := refGoodV ⟨4, i, 0, Fa0, []⟩ A len c true hg _ (hA.keep hb1) hn
  have HX := Lib.hid (And.intro hb1 (And.intro (boxAt_made w (Ac.cells ⟨4, i, 0, Fa0, []⟩ A len c) 29) hA))
  have HL := Lib.hid (congrArg (fun z : List UInt8 => z) (lineL_good hg))
  have hl0 := itoa_len (n := i) (by omega) (by omega)
  have CD := Lib.hid (fun W => digits06 i (by omega) (by omega) W)
  unfold Ac.cells Fa0 at C1
  have C1 := Lib.hid C1
  have HN := Lib.hid hn
  clear hb1 hA hg hn
  unfold Ac.cells Fa0
  go_enter Tryd.func9, Tryd.ntmps9
  go_wp2_with fail
  refine C1.out.mono ?_
  rintro e w1 ⟨rfl, hq⟩
  have hbx := HX.out.2.1.keep hq
  have hb2 := HX.out.1.trans (hq.mono HX.out.1.size)
  have r0 := hbx 0 _ rfl
  have r1 := hbx 1 _ rfl
  have r2 := hbx 2 _ rfl
  have r3 := hbx 3 _ rfl
  have r4 := hbx 4 _ rfl
  have r5 := hbx 5 _ rfl
  have r6 := hbx 6 _ rfl
  have r7 := hbx 7 _ rfl
  have r8 := hbx 8 _ rfl
  have HST : Hid (∀ W, Below w1.heap.size w1 W → Below w1.heap.size w1 W ∧ W.cell? ⟨w.heap.size, 1, none⟩ = some (.int .i64 (i)) ∧ W.cell? ⟨w.heap.size, 3, none⟩ = some (.int .i64 0) ∧ W.cell? ⟨w.heap.size, 4, none⟩ = some (.int .i64 0) ∧ W.cell? ⟨w.heap.size, 5, none⟩ = some (.int .i64 0) ∧ W.cell? ⟨w.heap.size, 6, none⟩ = some (.int .u32 0) ∧ W.cell? ⟨w.heap.size, 7, none⟩ = some (.int .u32 0)) := fun W hW =>
    ⟨hW, hbx.keep hW 1 _ rfl, hbx.keep hW 3 _ rfl, hbx.keep hW 4 _ rfl, hbx.keep hW 5 _ rfl, hbx.keep hW 6 _ rfl, hbx.keep hW 7 _ rfl⟩
  have hnew := World.new_ne w1 ⟨w.heap.size, 0, none⟩ r0
  have hbW : Below w1.heap.size w1 (w1.alloc (.cells #[.int .i64 0, .int .i64 0, .int .i64 0, .int .u32 0, .int .u32 0] 26)).drew := ((Below.refl _ _).alloc (Nat.le_refl _) _).drew
  obtain ⟨W2, hW2⟩ : ∃ W2, (w1.alloc (.cells #[.int .i64 0, .int .i64 0, .int .i64 0, .int .u32 0, .int .u32 0] 26)).drew = W2 := ⟨_, rfl⟩
  have f0 : W2.cell? ⟨w1.heap.size, 0, none⟩ = some (.int .i64 0) := by rw [← hW2]; simp
  have f1 : W2.cell? ⟨w1.heap.size, 1, none⟩ = some (.int .i64 0) := by rw [← hW2]; simp
  have f2 : W2.cell? ⟨w1.heap.size, 2, none⟩ = some (.int .i64 0) := by rw [← hW2]; simp
  have f3 : W2.cell? ⟨w1.heap.size, 3, none⟩ = some (.int .u32 0) := by rw [← hW2]; simp
  have f4 : W2.cell? ⟨w1.heap.size, 4, none⟩ = some (.int .u32 0) := by rw [← hW2]; simp
  rw [hW2] at hbW
  have s0 := hbx.keep hbW 0 _ rfl
  have s2 := hbx.keep hbW 2 _ rfl
  have s8 := hbx.keep hbW 8 _ rfl
  have HW := Lib.hid (And.intro hW2 (And.intro (hb2.trans (Below.mono hbW hb2.size)) (HX.out.2.2.keep hb2 |>.keep hbW)))
  have HB := Lib.hid (And.intro hb2 hbx)
  clear hq hbx hb2 hbW hW2
  go_wp2_with fail
  go_region_held (fun W => Below w1.heap.size w1 W ∧ W.cell? ⟨w.heap.size, 1, none⟩ = some (.int .i64 (i)) ∧ W.cell? ⟨w.heap.size, 3, none⟩ = some (.int .i64 0) ∧ W.cell? ⟨w.heap.size, 4, none⟩ = some (.int .i64 0) ∧ W.cell? ⟨w.heap.size, 5, none⟩ = some (.int .i64 0) ∧ W.cell? ⟨w.heap.size, 6, none⟩ = some (.int .u32 0) ∧ W.cell? ⟨w.heap.size, 7, none⟩ = some (.int .u32 0))
    (first
      | exact HST.out _ (Below.refl _ _).drew
      | exact HST.out _ ((Below.refl _ _).alloc (Nat.le_refl _) _).drew
      | exact HST.out _ ((Below.refl _ _).drew.alloc (Nat.le_refl _) _)
      | (go_split_ands; refine ⟨?_, ?_, ?_, ?_, ?_, ?_, ?_⟩ <;> assumption)
      | (go_split_ands; exact HST.out _ (Below.alloc (by assumption) (Below.size (by assumption)) _)))
    (first
      | (go_at_call 21; (with_reducible refine (CD.out _).mono ?_); rintro e w5 ⟨rfl, rfl⟩))
  all_goals
    rw [HW.out.1]
    go_wp2
    go_ret
    refine ⟨ret_arr (Eq.trans ?_ HL.out.symm), ?_⟩
    · simp [joinBy, wordsOf, wCrash]
    · exact HW.out.2.1
set_option maxHeartbeats 6400000 in
set_option maxRecDepth 100000 in
theorem refLine_5 (i : Int) (hg : goodA ⟨5, i, 0, Fa0, []⟩ = true) (A : Option Addr) (len c : Nat) (w : World) (hA : U8At w A []) (hn : ([] : List UInt8).length = len) (h0 : 0 ≤ i) (h1 : i ≤ 63) :
    Calls Tryd.prog 9 #[.agg (Ac.cells ⟨5, i, 0, Fa0, []⟩ A len c).toArray] w fun e w' => e = .returned (.string ⟨(lineL ⟨5, i, 0, Fa0, []⟩).toArray⟩) ∧ Below w.heap.size w w' := by
  have hb1 : Below w.heap.size w (w.alloc (.cells (Ac.cells ⟨5, i, 0, Fa0, []⟩ A len c).toArray 29)) := (Below.refl _ _).alloc (Nat.le_refl _) _
  have C1 := refGoodV ⟨5, i, 0, Fa0, []⟩ A len c true hg _ (hA.keep hb1) hn
  have HX := Lib.hid (And.intro hb1 (And.intro (boxAt_made w (Ac.cells ⟨5, i, 0, Fa0, []⟩ A len c) 29) hA))
  have HL := Lib.hid (congrArg (fun z : List UInt8 => z) (lineL_good hg))
  have hl0 := itoa_len (n := i) (by omega) (by omega)
  have CD := Lib.hid (fun W => digits06 i (by omega) (by omega) W)
  unfold Ac.cells Fa0 at C1
  have C1 := Lib.hid C1
  have HN := Lib.hid hn
  clear hb1 hA hg hn
  unfold Ac.cells Fa0
  go_enter Tryd.func9, Tryd.ntmps9
  go_wp2_with fail
  refine C1.out.mono ?_
  rintro e w1 ⟨rfl, hq⟩
  have hbx := HX.out.2.1.keep hq
  have hb2 := HX.out.1.trans (hq.mono HX.out.1.size)
  have r0 := hbx 0 _ rfl
  have r1 := hbx 1 _ rfl
  have r2 := hbx 2 _ rfl
  have r3 := hbx 3 _ rfl
  have r4 := hbx 4 _ rfl
  have r5 := hbx 5 _ rfl
  have r6 := hbx 6 _ rfl
  have r7 := hbx 7 _ rfl
  have r8 := hbx 8 _ rfl
  have HST : Hid (∀ W, Below w1.heap.size w1 W → Below w1.heap.size w1 W ∧ W.cell? ⟨w.heap.size, 1, none⟩ = some (.int .i64 (i)) ∧ W.cell? ⟨w.heap.size, 3, none⟩ = some (.int .i64 0) ∧ W.cell? ⟨w.heap.size, 4, none⟩ = some (.int .i64 0) ∧ W.cell? ⟨w.heap.size, 5, none⟩ = some (.int .i64 0) ∧ W.cell? ⟨w.heap.size, 6, none⟩ = some (.int .u32 0) ∧ W.cell? ⟨w.heap.size, 7, none⟩ = some (.int .u32 0)) := fun W hW =>
    ⟨hW, hbx.keep hW 1 _ rfl, hbx.keep hW 3 _ rfl, hbx.keep hW 4 _ rfl, hbx.keep hW 5 _ rfl, hbx.keep hW 6 _ rfl, hbx.keep hW 7 _ rfl⟩
  have hnew := World.new_ne w1 ⟨w.heap.size, 0, none⟩ r0
  have hbW : Below w1.heap.size w1 (w1.alloc (.cells #[.int .i64 0, .int .i64 0, .int .i64 0, .int .u32 0, .int .u32 0] 26)).drew := ((Below.refl _ _).alloc (Nat.le_refl _) _).drew
  obtain ⟨W2, hW2⟩ : ∃ W2, (w1.alloc (.cells #[.int .i64 0, .int .i64 0, .int .i64 0, .int .u32 0, .int .u32 0] 26)).drew = W2 := ⟨_, rfl⟩
  have f0 : W2.cell? ⟨w1.heap.size, 0, none⟩ = some (.int .i64 0) := by rw [← hW2]; simp
  have f1 : W2.cell? ⟨w1.heap.size, 1, none⟩ = some (.int .i64 0) := by rw [← hW2]; simp
  have f2 : W2.cell? ⟨w1.heap.size, 2, none⟩ = some (.int .i64 0) := by rw [← hW2]; simp
  have f3 : W2.cell? ⟨w1.heap.size, 3, none⟩ = some (.int .u32 0) := by rw [← hW2]; simp
  have f4 : W2.cell? ⟨w1.heap.size, 4, none⟩ = some (.int .u32 0) := by rw [← hW2]; simp
  rw [hW2] at hbW
  have s0 := hbx.keep hbW 0 _ rfl
  have s2 := hbx.keep hbW 2 _ rfl
  have s8 := hbx.keep hbW 8 _ rfl
  have HW := Lib.hid (And.intro hW2 (And.intro (hb2.trans (Below.mono hbW hb2.size)) (HX.out.2.2.keep hb2 |>.keep hbW)))
  have HB := Lib.hid (And.intro hb2 hbx)
  clear hq hbx hb2 hbW hW2
  go_wp2_with fail
  go_region_held (fun W => Below w1.heap.size w1 W ∧ W.cell? ⟨w.heap.size, 1, none⟩ = some (.int .i64 (i)) ∧ W.cell? ⟨w.heap.size, 3, none⟩ = some (.int .i64 0) ∧ W.cell? ⟨w.heap.size, 4, none⟩ = some (.int .i64 0) ∧ W.cell? ⟨w.heap.size, 5, none⟩ = some (.int .i64 0) ∧ W.cell? ⟨w.heap.size, 6, none⟩ = some (.int .u32 0) ∧ W.cell? ⟨w.heap.size, 7, none⟩ = some (.int .u32 0))
    (first
      | exact HST.out _ (Below.refl _ _).drew
      | exact HST.out _ ((Below.refl _ _).alloc (Nat.le_refl _) _).drew
      | exact HST.out _ ((Below.refl _ _).drew.alloc (Nat.le_refl _) _)
      | (go_split_ands; refine ⟨?_, ?_, ?_, ?_, ?_, ?_, ?_⟩ <;> assumption)
      | (go_split_ands; exact HST.out _ (Below.alloc (by assumption) (Below.size (by assumption)) _)))
    (first
      | (go_at_call 21; (with_reducible refine (CD.out _).mono ?_); rintro e w5 ⟨rfl, rfl⟩))
  all_goals
    rw [HW.out.1]
    go_wp2
    go_ret
    refine ⟨ret_arr (Eq.trans ?_ HL.out.symm), ?_⟩
    · simp [joinBy, wordsOf, wRestart]
    · exact HW.out.2.1
set_option maxHeartbeats 6400000 in
set_option maxRecDepth 100000 in
theorem refLine_7 (i : Int) (hg : goodA ⟨7, i, 0, Fa0, []⟩ = true) (A : Option Addr) (len c : Nat) (w : World) (hA : U8At w A []) (hn : ([] : List UInt8).length = len) (h0 : 0 ≤ i) (h1 : i ≤ 63) :
    Calls Tryd.prog 9 #[.agg (Ac.cells ⟨7, i, 0, Fa0, []⟩ A len c).toArray] w fun e w' => e = .returned (.string ⟨(lineL ⟨7, i, 0, Fa0, []⟩).toArray⟩) ∧ Below w.heap.size w w' := by
  have hb1 : Below w.heap.size w (w.alloc (.cells (Ac.cells ⟨7, i, 0, Fa0, []⟩ A len c).toArray 29)) := (Below.refl _ _).alloc (Nat.le_refl _) _
  have C1 := refGoodV ⟨7, i, 0, Fa0, []⟩ A len c true hg _ (hA.keep hb1) hn
  have HX := Lib.hid (And.intro hb1 (And.intro (boxAt_made w (Ac.cells ⟨7, i, 0, Fa0, []⟩ A len c) 29) hA))
  have HL := Lib.hid (congrArg (fun z : List UInt8 => z) (lineL_good hg))
  have hl0 := itoa_len (n := i) (by omega) (by omega)
  have CD := Lib.hid (fun W => digits06 i (by omega) (by omega) W)
  unfold Ac.cells Fa0 at C1
  have C1 := Lib.hid C1
  have HN := Lib.hid hn
  clear hb1 hA hg hn
  unfold Ac.cells Fa0
  go_enter Tryd.func9, Tryd.ntmps9
  go_wp2_with fail
  refine C1.out.mono ?_
  rintro e w1 ⟨rfl, hq⟩
  have hbx := HX.out.2.1.keep hq
  have hb2 := HX.out.1.trans (hq.mono HX.out.1.size)
  have r0 := hbx 0 _ rfl
  have r1 := hbx 1 _ rfl
  have r2 := hbx 2 _ rfl
  have r3 := hbx 3 _ rfl
  have r4 := hbx 4 _ rfl
  have r5 := hbx 5 _ rfl
  have r6 := hbx 6 _ rfl
  have r7 := hbx 7 _ rfl
  have r8 := hbx 8 _ rfl
  have HST : Hid (∀ W, Below w1.heap.size w1 W → Below w1.heap.size w1 W ∧ W.cell? ⟨w.heap.size, 1, none⟩ = some (.int .i64 (i)) ∧ W.cell? ⟨w.heap.size, 3, none⟩ = some (.int .i64 0) ∧ W.cell? ⟨w.heap.size, 4, none⟩ = some (.int .i64 0) ∧ W.cell? ⟨w.heap.size, 5, none⟩ = some (.int .i64 0) ∧ W.cell? ⟨w.heap.size, 6, none⟩ = some (.int .u32 0) ∧ W.cell? ⟨w.heap.size, 7, none⟩ = some (.int .u32 0)) := fun W hW =>
    ⟨hW, hbx.keep hW 1 _ rfl, hbx.keep hW 3 _ rfl, hbx.keep hW 4 _ rfl, hbx.keep hW 5 _ rfl, hbx.keep hW 6 _ rfl, hbx.keep hW 7 _ rfl⟩
  have hnew := World.new_ne w1 ⟨w.heap.size, 0, none⟩ r0
  have hbW : Below w1.heap.size w1 (w1.alloc (.cells #[.int .i64 0, .int .i64 0, .int .i64 0, .int .u32 0, .int .u32 0] 26)).drew := ((Below.refl _ _).alloc (Nat.le_refl _) _).drew
  obtain ⟨W2, hW2⟩ : ∃ W2, (w1.alloc (.cells #[.int .i64 0, .int .i64 0, .int .i64 0, .int .u32 0, .int .u32 0] 26)).drew = W2 := ⟨_, rfl⟩
  have f0 : W2.cell? ⟨w1.heap.size, 0, none⟩ = some (.int .i64 0) := by rw [← hW2]; simp
  have f1 : W2.cell? ⟨w1.heap.size, 1, none⟩ = some (.int .i64 0) := by rw [← hW2]; simp
  have f2 : W2.cell? ⟨w1.heap.size, 2, none⟩ = some (.int .i64 0) := by rw [← hW2]; simp
  have f3 : W2.cell? ⟨w1.heap.size, 3, none⟩ = some (.int .u32 0) := by rw [← hW2]; simp
  have f4 : W2.cell? ⟨w1.heap.size, 4, none⟩ = some (.int .u32 0) := by rw [← hW2]; simp
  rw [hW2] at hbW
  have s0 := hbx.keep hbW 0 _ rfl
  have s2 := hbx.keep hbW 2 _ rfl
  have s8 := hbx.keep hbW 8 _ rfl
  have HW := Lib.hid (And.intro hW2 (And.intro (hb2.trans (Below.mono hbW hb2.size)) (HX.out.2.2.keep hb2 |>.keep hbW)))
  have HB := Lib.hid (And.intro hb2 hbx)
  clear hq hbx hb2 hbW hW2
  go_wp2_with fail
  go_region_held (fun W => Below w1.heap.size w1 W ∧ W.cell? ⟨w.heap.size, 1, none⟩ = some (.int .i64 (i)) ∧ W.cell? ⟨w.heap.size, 3, none⟩ = some (.int .i64 0) ∧ W.cell? ⟨w.heap.size, 4, none⟩ = some (.int .i64 0) ∧ W.cell? ⟨w.heap.size, 5, none⟩ = some (.int .i64 0) ∧ W.cell? ⟨w.heap.size, 6, none⟩ = some (.int .u32 0) ∧ W.cell? ⟨w.heap.size, 7, none⟩ = some (.int .u32 0))
    (first
      | exact HST.out _ (Below.refl _ _).drew
      | exact HST.out _ ((Below.refl _ _).alloc (Nat.le_refl _) _).drew
      | exact HST.out _ ((Below.refl _ _).drew.alloc (Nat.le_refl _) _)
      | (go_split_ands; refine ⟨?_, ?_, ?_, ?_, ?_, ?_, ?_⟩ <;> assumption)
      | (go_split_ands; exact HST.out _ (Below.alloc (by assumption) (Below.size (by assumption)) _)))
    (first
      | (go_at_call 21; (with_reducible refine (CD.out _).mono ?_); rintro e w5 ⟨rfl, rfl⟩))
  all_goals
    rw [HW.out.1]
    go_wp2
    go_ret
    refine ⟨ret_arr (Eq.trans ?_ HL.out.symm), ?_⟩
    · simp [joinBy, wordsOf, wJoin]
    · exact HW.out.2.1
set_option maxHeartbeats 6400000 in
set_option maxRecDepth 100000 in
theorem refLine_8 (i : Int) (hg : goodA ⟨8, i, 0, Fa0, []⟩ = true) (A : Option Addr) (len c : Nat) (w : World) (hA : U8At w A []) (hn : ([] : List UInt8).length = len) (h0 : 0 ≤ i) (h1 : i ≤ 63) :
    Calls Tryd.prog 9 #[.agg (Ac.cells ⟨8, i, 0, Fa0, []⟩ A len c).toArray] w fun e w' => e = .returned (.string ⟨(lineL ⟨8, i, 0, Fa0, []⟩).toArray⟩) ∧ Below w.heap.size w w' := by
  have hb1 : Below w.heap.size w (w.alloc (.cells (Ac.cells ⟨8, i, 0, Fa0, []⟩ A len c).toArray 29)) := (Below.refl _ _).alloc (Nat.le_refl _) _
  have C1 := refGoodV ⟨8, i, 0, Fa0, []⟩ A len c true hg _ (hA.keep hb1) hn
  have HX := Lib.hid (And.intro hb1 (And.intro (boxAt_made w (Ac.cells ⟨8, i, 0, Fa0, []⟩ A len c) 29) hA))
  have HL := Lib.hid (congrArg (fun z : List UInt8 => z) (lineL_good hg))
  have hl0 := itoa_len (n := i) (by omega) (by omega)
  have CD := Lib.hid (fun W => digits06 i (by omega) (by omega) W)
  unfold Ac.cells Fa0 at C1
  have C1 := Lib.hid C1
  have HN := Lib.hid hn
  clear hb1 hA hg hn
  unfold Ac.cells Fa0
  go_enter Tryd.func9, Tryd.ntmps9
  go_wp2_with fail
  refine C1.out.mono ?_
  rintro e w1 ⟨rfl, hq⟩
  have hbx := HX.out.2.1.keep hq
  have hb2 := HX.out.1.trans (hq.mono HX.out.1.size)
  have r0 := hbx 0 _ rfl
  have r1 := hbx 1 _ rfl
  have r2 := hbx 2 _ rfl
  have r3 := hbx 3 _ rfl
  have r4 := hbx 4 _ rfl
  have r5 := hbx 5 _ rfl
  have r6 := hbx 6 _ rfl
  have r7 := hbx 7 _ rfl
  have r8 := hbx 8 _ rfl
  have HST : Hid (∀ W, Below w1.heap.size w1 W → Below w1.heap.size w1 W ∧ W.cell? ⟨w.heap.size, 1, none⟩ = some (.int .i64 (i)) ∧ W.cell? ⟨w.heap.size, 3, none⟩ = some (.int .i64 0) ∧ W.cell? ⟨w.heap.size, 4, none⟩ = some (.int .i64 0) ∧ W.cell? ⟨w.heap.size, 5, none⟩ = some (.int .i64 0) ∧ W.cell? ⟨w.heap.size, 6, none⟩ = some (.int .u32 0) ∧ W.cell? ⟨w.heap.size, 7, none⟩ = some (.int .u32 0)) := fun W hW =>
    ⟨hW, hbx.keep hW 1 _ rfl, hbx.keep hW 3 _ rfl, hbx.keep hW 4 _ rfl, hbx.keep hW 5 _ rfl, hbx.keep hW 6 _ rfl, hbx.keep hW 7 _ rfl⟩
  have hnew := World.new_ne w1 ⟨w.heap.size, 0, none⟩ r0
  have hbW : Below w1.heap.size w1 (w1.alloc (.cells #[.int .i64 0, .int .i64 0, .int .i64 0, .int .u32 0, .int .u32 0] 26)).drew := ((Below.refl _ _).alloc (Nat.le_refl _) _).drew
  obtain ⟨W2, hW2⟩ : ∃ W2, (w1.alloc (.cells #[.int .i64 0, .int .i64 0, .int .i64 0, .int .u32 0, .int .u32 0] 26)).drew = W2 := ⟨_, rfl⟩
  have f0 : W2.cell? ⟨w1.heap.size, 0, none⟩ = some (.int .i64 0) := by rw [← hW2]; simp
  have f1 : W2.cell? ⟨w1.heap.size, 1, none⟩ = some (.int .i64 0) := by rw [← hW2]; simp
  have f2 : W2.cell? ⟨w1.heap.size, 2, none⟩ = some (.int .i64 0) := by rw [← hW2]; simp
  have f3 : W2.cell? ⟨w1.heap.size, 3, none⟩ = some (.int .u32 0) := by rw [← hW2]; simp
  have f4 : W2.cell? ⟨w1.heap.size, 4, none⟩ = some (.int .u32 0) := by rw [← hW2]; simp
  rw [hW2] at hbW
  have s0 := hbx.keep hbW 0 _ rfl
  have s2 := hbx.keep hbW 2 _ rfl
  have s8 := hbx.keep hbW 8 _ rfl
  have HW := Lib.hid (And.intro hW2 (And.intro (hb2.trans (Below.mono hbW hb2.size)) (HX.out.2.2.keep hb2 |>.keep hbW)))
  have HB := Lib.hid (And.intro hb2 hbx)
  clear hq hbx hb2 hbW hW2
  go_wp2_with fail
  go_region_held (fun W => Below w1.heap.size w1 W ∧ W.cell? ⟨w.heap.size, 1, none⟩ = some (.int .i64 (i)) ∧ W.cell? ⟨w.heap.size, 3, none⟩ = some (.int .i64 0) ∧ W.cell? ⟨w.heap.size, 4, none⟩ = some (.int .i64 0) ∧ W.cell? ⟨w.heap.size, 5, none⟩ = some (.int .i64 0) ∧ W.cell? ⟨w.heap.size, 6, none⟩ = some (.int .u32 0) ∧ W.cell? ⟨w.heap.size, 7, none⟩ = some (.int .u32 0))
    (first
      | exact HST.out _ (Below.refl _ _).drew
      | exact HST.out _ ((Below.refl _ _).alloc (Nat.le_refl _) _).drew
      | exact HST.out _ ((Below.refl _ _).drew.alloc (Nat.le_refl _) _)
      | (go_split_ands; refine ⟨?_, ?_, ?_, ?_, ?_, ?_, ?_⟩ <;> assumption)
      | (go_split_ands; exact HST.out _ (Below.alloc (by assumption) (Below.size (by assumption)) _)))
    (first
      | (go_at_call 21; (with_reducible refine (CD.out _).mono ?_); rintro e w5 ⟨rfl, rfl⟩))
  all_goals
    rw [HW.out.1]
    go_wp2
    go_ret
    refine ⟨ret_arr (Eq.trans ?_ HL.out.symm), ?_⟩
    · simp [joinBy, wordsOf, wLeave]
    · exact HW.out.2.1
set_option maxHeartbeats 6400000 in
set_option maxRecDepth 100000 in
theorem refLine_3a (z : Int) (hg : goodA ⟨3, 0, 0, ⟨1, 0, 0, 0, 0⟩, []⟩ = true) (A : Option Addr) (len c : Nat) (w : World) (hA : U8At w A []) (hn : ([] : List UInt8).length = len) (hz0 : z = 0) :
    Calls Tryd.prog 9 #[.agg (Ac.cells ⟨3, 0, 0, ⟨1, 0, 0, 0, 0⟩, []⟩ A len c).toArray] w fun e w' => e = .returned (.string ⟨(lineL ⟨3, 0, 0, ⟨1, 0, 0, 0, 0⟩, []⟩).toArray⟩) ∧ Below w.heap.size w w' := by
  have hb1 : Below w.heap.size w (w.alloc (.cells (Ac.cells ⟨3, 0, 0, ⟨1, 0, 0, 0, 0⟩, []⟩ A len c).toArray 29)) := (Below.refl _ _).alloc (Nat.le_refl _) _
  have C1 := refGoodV ⟨3, 0, 0, ⟨1, 0, 0, 0, 0⟩, []⟩ A len c true hg _ (hA.keep hb1) hn
  have HX := Lib.hid (And.intro hb1 (And.intro (boxAt_made w (Ac.cells ⟨3, 0, 0, ⟨1, 0, 0, 0, 0⟩, []⟩ A len c) 29) hA))
  have HL := Lib.hid (congrArg (fun z : List UInt8 => z) (lineL_good hg))
  have hl0 := itoa_len (n := 0) (by omega) (by omega)
  have CD := Lib.hid (fun W => digits06 0 (by omega) (by omega) W)
  unfold Ac.cells at C1
  have C1 := Lib.hid C1
  have HN := Lib.hid hn
  clear hb1 hA hg hn
  unfold Ac.cells 
  go_enter Tryd.func9, Tryd.ntmps9
  go_wp2_with fail
  refine C1.out.mono ?_
  rintro e w1 ⟨rfl, hq⟩
  have hbx := HX.out.2.1.keep hq
  have hb2 := HX.out.1.trans (hq.mono HX.out.1.size)
  have r0 := hbx 0 _ rfl
  have r1 := hbx 1 _ rfl
  have r2 := hbx 2 _ rfl
  have r3 := hbx 3 _ rfl
  have r4 := hbx 4 _ rfl
  have r5 := hbx 5 _ rfl
  have r6 := hbx 6 _ rfl
  have r7 := hbx 7 _ rfl
  have r8 := hbx 8 _ rfl
  have HST : Hid (∀ W, Below w1.heap.size w1 W → Below w1.heap.size w1 W ∧ W.cell? ⟨w.heap.size, 1, none⟩ = some (.int .i64 (0)) ∧ W.cell? ⟨w.heap.size, 3, none⟩ = some (.int .i64 1) ∧ W.cell? ⟨w.heap.size, 4, none⟩ = some (.int .i64 0) ∧ W.cell? ⟨w.heap.size, 5, none⟩ = some (.int .i64 0) ∧ W.cell? ⟨w.heap.size, 6, none⟩ = some (.int .u32 0) ∧ W.cell? ⟨w.heap.size, 7, none⟩ = some (.int .u32 0)) := fun W hW =>
    ⟨hW, hbx.keep hW 1 _ rfl, hbx.keep hW 3 _ rfl, hbx.keep hW 4 _ rfl, hbx.keep hW 5 _ rfl, hbx.keep hW 6 _ rfl, hbx.keep hW 7 _ rfl⟩
  have hnew := World.new_ne w1 ⟨w.heap.size, 0, none⟩ r0
  have hbW : Below w1.heap.size w1 (w1.alloc (.cells #[.int .i64 1, .int .i64 0, .int .i64 0, .int .u32 0, .int .u32 0] 26)).drew := ((Below.refl _ _).alloc (Nat.le_refl _) _).drew
  obtain ⟨W2, hW2⟩ : ∃ W2, (w1.alloc (.cells #[.int .i64 1, .int .i64 0, .int .i64 0, .int .u32 0, .int .u32 0] 26)).drew = W2 := ⟨_, rfl⟩
  have f0 : W2.cell? ⟨w1.heap.size, 0, none⟩ = some (.int .i64 1) := by rw [← hW2]; simp
  have f1 : W2.cell? ⟨w1.heap.size, 1, none⟩ = some (.int .i64 0) := by rw [← hW2]; simp
  have f2 : W2.cell? ⟨w1.heap.size, 2, none⟩ = some (.int .i64 0) := by rw [← hW2]; simp
  have f3 : W2.cell? ⟨w1.heap.size, 3, none⟩ = some (.int .u32 0) := by rw [← hW2]; simp
  have f4 : W2.cell? ⟨w1.heap.size, 4, none⟩ = some (.int .u32 0) := by rw [← hW2]; simp
  rw [hW2] at hbW
  have s0 := hbx.keep hbW 0 _ rfl
  have s2 := hbx.keep hbW 2 _ rfl
  have s8 := hbx.keep hbW 8 _ rfl
  have HW := Lib.hid (And.intro hW2 (And.intro (hb2.trans (Below.mono hbW hb2.size)) (HX.out.2.2.keep hb2 |>.keep hbW)))
  have HB := Lib.hid (And.intro hb2 hbx)
  clear hq hbx hb2 hbW hW2
  go_wp2_with fail
  go_region_held (fun W => Below w1.heap.size w1 W ∧ W.cell? ⟨w.heap.size, 1, none⟩ = some (.int .i64 (0)) ∧ W.cell? ⟨w.heap.size, 3, none⟩ = some (.int .i64 1) ∧ W.cell? ⟨w.heap.size, 4, none⟩ = some (.int .i64 0) ∧ W.cell? ⟨w.heap.size, 5, none⟩ = some (.int .i64 0) ∧ W.cell? ⟨w.heap.size, 6, none⟩ = some (.int .u32 0) ∧ W.cell? ⟨w.heap.size, 7, none⟩ = some (.int .u32 0))
    (first
      | exact HST.out _ (Below.refl _ _).drew
      | exact HST.out _ ((Below.refl _ _).alloc (Nat.le_refl _) _).drew
      | exact HST.out _ ((Below.refl _ _).drew.alloc (Nat.le_refl _) _)
      | (go_split_ands; refine ⟨?_, ?_, ?_, ?_, ?_, ?_, ?_⟩ <;> assumption)
      | (go_split_ands; exact HST.out _ (Below.alloc (by assumption) (Below.size (by assumption)) _)))
    (first
      | (go_at_call 21; (with_reducible refine (CD.out _).mono ?_); rintro e w5 ⟨rfl, rfl⟩))
  all_goals
    rw [HW.out.1]
    go_wp2_with (go_at_call 21; refine (digits06 _ (by omega) (by omega) _).mono ?_; rintro e w5 ⟨rfl, rfl⟩)
    go_ret
    refine ⟨ret_arr (Eq.trans ?_ HL.out.symm), ?_⟩
    · simp [joinBy, wordsOf, wFate, wDrop]
    · exact HW.out.2.1
set_option maxHeartbeats 6400000 in
set_option maxRecDepth 100000 in
theorem refLine_3b (d : Int) (hg : goodA ⟨3, 0, 0, ⟨0, d, 0, 0, 0⟩, []⟩ = true) (A : Option Addr) (len c : Nat) (w : World) (hA : U8At w A []) (hn : ([] : List UInt8).length = len) (h0 : 1 ≤ d) (h1 : d ≤ 64) :
    Calls Tryd.prog 9 #[.agg (Ac.cells ⟨3, 0, 0, ⟨0, d, 0, 0, 0⟩, []⟩ A len c).toArray] w fun e w' => e = .returned (.string ⟨(lineL ⟨3, 0, 0, ⟨0, d, 0, 0, 0⟩, []⟩).toArray⟩) ∧ Below w.heap.size w w' := by
  have hb1 : Below w.heap.size w (w.alloc (.cells (Ac.cells ⟨3, 0, 0, ⟨0, d, 0, 0, 0⟩, []⟩ A len c).toArray 29)) := (Below.refl _ _).alloc (Nat.le_refl _) _
  have C1 := refGoodV ⟨3, 0, 0, ⟨0, d, 0, 0, 0⟩, []⟩ A len c true hg _ (hA.keep hb1) hn
  have HX := Lib.hid (And.intro hb1 (And.intro (boxAt_made w (Ac.cells ⟨3, 0, 0, ⟨0, d, 0, 0, 0⟩, []⟩ A len c) 29) hA))
  have HL := Lib.hid (congrArg (fun z : List UInt8 => z) (lineL_good hg))
  have hl0 := itoa_len (n := 0) (by omega) (by omega)
  have CD := Lib.hid (fun W => digits06 0 (by omega) (by omega) W)
  unfold Ac.cells at C1
  have C1 := Lib.hid C1
  have HN := Lib.hid hn
  clear hb1 hA hg hn
  unfold Ac.cells 
  have hl1 := itoa_len (n := d) (by omega) (by omega)
  go_enter Tryd.func9, Tryd.ntmps9
  go_wp2_with fail
  refine C1.out.mono ?_
  rintro e w1 ⟨rfl, hq⟩
  have hbx := HX.out.2.1.keep hq
  have hb2 := HX.out.1.trans (hq.mono HX.out.1.size)
  have r0 := hbx 0 _ rfl
  have r1 := hbx 1 _ rfl
  have r2 := hbx 2 _ rfl
  have r3 := hbx 3 _ rfl
  have r4 := hbx 4 _ rfl
  have r5 := hbx 5 _ rfl
  have r6 := hbx 6 _ rfl
  have r7 := hbx 7 _ rfl
  have r8 := hbx 8 _ rfl
  have HST : Hid (∀ W, Below w1.heap.size w1 W → Below w1.heap.size w1 W ∧ W.cell? ⟨w.heap.size, 1, none⟩ = some (.int .i64 (0)) ∧ W.cell? ⟨w.heap.size, 3, none⟩ = some (.int .i64 0) ∧ W.cell? ⟨w.heap.size, 4, none⟩ = some (.int .i64 d) ∧ W.cell? ⟨w.heap.size, 5, none⟩ = some (.int .i64 0) ∧ W.cell? ⟨w.heap.size, 6, none⟩ = some (.int .u32 0) ∧ W.cell? ⟨w.heap.size, 7, none⟩ = some (.int .u32 0)) := fun W hW =>
    ⟨hW, hbx.keep hW 1 _ rfl, hbx.keep hW 3 _ rfl, hbx.keep hW 4 _ rfl, hbx.keep hW 5 _ rfl, hbx.keep hW 6 _ rfl, hbx.keep hW 7 _ rfl⟩
  have hnew := World.new_ne w1 ⟨w.heap.size, 0, none⟩ r0
  have hbW : Below w1.heap.size w1 (w1.alloc (.cells #[.int .i64 0, .int .i64 d, .int .i64 0, .int .u32 0, .int .u32 0] 26)).drew := ((Below.refl _ _).alloc (Nat.le_refl _) _).drew
  obtain ⟨W2, hW2⟩ : ∃ W2, (w1.alloc (.cells #[.int .i64 0, .int .i64 d, .int .i64 0, .int .u32 0, .int .u32 0] 26)).drew = W2 := ⟨_, rfl⟩
  have f0 : W2.cell? ⟨w1.heap.size, 0, none⟩ = some (.int .i64 0) := by rw [← hW2]; simp
  have f1 : W2.cell? ⟨w1.heap.size, 1, none⟩ = some (.int .i64 d) := by rw [← hW2]; simp
  have f2 : W2.cell? ⟨w1.heap.size, 2, none⟩ = some (.int .i64 0) := by rw [← hW2]; simp
  have f3 : W2.cell? ⟨w1.heap.size, 3, none⟩ = some (.int .u32 0) := by rw [← hW2]; simp
  have f4 : W2.cell? ⟨w1.heap.size, 4, none⟩ = some (.int .u32 0) := by rw [← hW2]; simp
  rw [hW2] at hbW
  have s0 := hbx.keep hbW 0 _ rfl
  have s2 := hbx.keep hbW 2 _ rfl
  have s8 := hbx.keep hbW 8 _ rfl
  have HW := Lib.hid (And.intro hW2 (And.intro (hb2.trans (Below.mono hbW hb2.size)) (HX.out.2.2.keep hb2 |>.keep hbW)))
  have HB := Lib.hid (And.intro hb2 hbx)
  clear hq hbx hb2 hbW hW2
  go_wp2_with fail
  go_region_held (fun W => Below w1.heap.size w1 W ∧ W.cell? ⟨w.heap.size, 1, none⟩ = some (.int .i64 (0)) ∧ W.cell? ⟨w.heap.size, 3, none⟩ = some (.int .i64 0) ∧ W.cell? ⟨w.heap.size, 4, none⟩ = some (.int .i64 d) ∧ W.cell? ⟨w.heap.size, 5, none⟩ = some (.int .i64 0) ∧ W.cell? ⟨w.heap.size, 6, none⟩ = some (.int .u32 0) ∧ W.cell? ⟨w.heap.size, 7, none⟩ = some (.int .u32 0))
    (first
      | exact HST.out _ (Below.refl _ _).drew
      | exact HST.out _ ((Below.refl _ _).alloc (Nat.le_refl _) _).drew
      | exact HST.out _ ((Below.refl _ _).drew.alloc (Nat.le_refl _) _)
      | (go_split_ands; refine ⟨?_, ?_, ?_, ?_, ?_, ?_, ?_⟩ <;> assumption)
      | (go_split_ands; exact HST.out _ (Below.alloc (by assumption) (Below.size (by assumption)) _)))
    (first
      | (go_at_call 21; (with_reducible refine (CD.out _).mono ?_); rintro e w5 ⟨rfl, rfl⟩))
  all_goals
    rw [HW.out.1]
    go_wp2_with (go_at_call 21; refine (digits06 _ (by omega) (by omega) _).mono ?_; rintro e w5 ⟨rfl, rfl⟩)
    go_ret
    refine ⟨ret_arr (Eq.trans ?_ HL.out.symm), ?_⟩
    · simp [joinBy, wordsOf, wFate, wGo]
    · exact HW.out.2.1
set_option maxHeartbeats 6400000 in
set_option maxRecDepth 100000 in
theorem refLine_3c (d a : Int) (hg : goodA ⟨3, 0, 0, ⟨2, d, a, 0, 0⟩, []⟩ = true) (A : Option Addr) (len c : Nat) (w : World) (hA : U8At w A []) (hn : ([] : List UInt8).length = len) (h0 : 1 ≤ d) (h1 : d ≤ 64) (h2 : 1 ≤ a) (h3 : a ≤ 64) :
    Calls Tryd.prog 9 #[.agg (Ac.cells ⟨3, 0, 0, ⟨2, d, a, 0, 0⟩, []⟩ A len c).toArray] w fun e w' => e = .returned (.string ⟨(lineL ⟨3, 0, 0, ⟨2, d, a, 0, 0⟩, []⟩).toArray⟩) ∧ Below w.heap.size w w' := by
  have hb1 : Below w.heap.size w (w.alloc (.cells (Ac.cells ⟨3, 0, 0, ⟨2, d, a, 0, 0⟩, []⟩ A len c).toArray 29)) := (Below.refl _ _).alloc (Nat.le_refl _) _
  have C1 := refGoodV ⟨3, 0, 0, ⟨2, d, a, 0, 0⟩, []⟩ A len c true hg _ (hA.keep hb1) hn
  have HX := Lib.hid (And.intro hb1 (And.intro (boxAt_made w (Ac.cells ⟨3, 0, 0, ⟨2, d, a, 0, 0⟩, []⟩ A len c) 29) hA))
  have HL := Lib.hid (congrArg (fun z : List UInt8 => z) (lineL_good hg))
  have hl0 := itoa_len (n := 0) (by omega) (by omega)
  have CD := Lib.hid (fun W => digits06 0 (by omega) (by omega) W)
  unfold Ac.cells at C1
  have C1 := Lib.hid C1
  have HN := Lib.hid hn
  clear hb1 hA hg hn
  unfold Ac.cells 
  have hl1 := itoa_len (n := d) (by omega) (by omega)
  have hl2 := itoa_len (n := a) (by omega) (by omega)
  go_enter Tryd.func9, Tryd.ntmps9
  go_wp2_with fail
  refine C1.out.mono ?_
  rintro e w1 ⟨rfl, hq⟩
  have hbx := HX.out.2.1.keep hq
  have hb2 := HX.out.1.trans (hq.mono HX.out.1.size)
  have r0 := hbx 0 _ rfl
  have r1 := hbx 1 _ rfl
  have r2 := hbx 2 _ rfl
  have r3 := hbx 3 _ rfl
  have r4 := hbx 4 _ rfl
  have r5 := hbx 5 _ rfl
  have r6 := hbx 6 _ rfl
  have r7 := hbx 7 _ rfl
  have r8 := hbx 8 _ rfl
  have HST : Hid (∀ W, Below w1.heap.size w1 W → Below w1.heap.size w1 W ∧ W.cell? ⟨w.heap.size, 1, none⟩ = some (.int .i64 (0)) ∧ W.cell? ⟨w.heap.size, 3, none⟩ = some (.int .i64 2) ∧ W.cell? ⟨w.heap.size, 4, none⟩ = some (.int .i64 d) ∧ W.cell? ⟨w.heap.size, 5, none⟩ = some (.int .i64 a) ∧ W.cell? ⟨w.heap.size, 6, none⟩ = some (.int .u32 0) ∧ W.cell? ⟨w.heap.size, 7, none⟩ = some (.int .u32 0)) := fun W hW =>
    ⟨hW, hbx.keep hW 1 _ rfl, hbx.keep hW 3 _ rfl, hbx.keep hW 4 _ rfl, hbx.keep hW 5 _ rfl, hbx.keep hW 6 _ rfl, hbx.keep hW 7 _ rfl⟩
  have hnew := World.new_ne w1 ⟨w.heap.size, 0, none⟩ r0
  have hbW : Below w1.heap.size w1 (w1.alloc (.cells #[.int .i64 2, .int .i64 d, .int .i64 a, .int .u32 0, .int .u32 0] 26)).drew := ((Below.refl _ _).alloc (Nat.le_refl _) _).drew
  obtain ⟨W2, hW2⟩ : ∃ W2, (w1.alloc (.cells #[.int .i64 2, .int .i64 d, .int .i64 a, .int .u32 0, .int .u32 0] 26)).drew = W2 := ⟨_, rfl⟩
  have f0 : W2.cell? ⟨w1.heap.size, 0, none⟩ = some (.int .i64 2) := by rw [← hW2]; simp
  have f1 : W2.cell? ⟨w1.heap.size, 1, none⟩ = some (.int .i64 d) := by rw [← hW2]; simp
  have f2 : W2.cell? ⟨w1.heap.size, 2, none⟩ = some (.int .i64 a) := by rw [← hW2]; simp
  have f3 : W2.cell? ⟨w1.heap.size, 3, none⟩ = some (.int .u32 0) := by rw [← hW2]; simp
  have f4 : W2.cell? ⟨w1.heap.size, 4, none⟩ = some (.int .u32 0) := by rw [← hW2]; simp
  rw [hW2] at hbW
  have s0 := hbx.keep hbW 0 _ rfl
  have s2 := hbx.keep hbW 2 _ rfl
  have s8 := hbx.keep hbW 8 _ rfl
  have HW := Lib.hid (And.intro hW2 (And.intro (hb2.trans (Below.mono hbW hb2.size)) (HX.out.2.2.keep hb2 |>.keep hbW)))
  have HB := Lib.hid (And.intro hb2 hbx)
  clear hq hbx hb2 hbW hW2
  go_wp2_with fail
  go_region_held (fun W => Below w1.heap.size w1 W ∧ W.cell? ⟨w.heap.size, 1, none⟩ = some (.int .i64 (0)) ∧ W.cell? ⟨w.heap.size, 3, none⟩ = some (.int .i64 2) ∧ W.cell? ⟨w.heap.size, 4, none⟩ = some (.int .i64 d) ∧ W.cell? ⟨w.heap.size, 5, none⟩ = some (.int .i64 a) ∧ W.cell? ⟨w.heap.size, 6, none⟩ = some (.int .u32 0) ∧ W.cell? ⟨w.heap.size, 7, none⟩ = some (.int .u32 0))
    (first
      | exact HST.out _ (Below.refl _ _).drew
      | exact HST.out _ ((Below.refl _ _).alloc (Nat.le_refl _) _).drew
      | exact HST.out _ ((Below.refl _ _).drew.alloc (Nat.le_refl _) _)
      | (go_split_ands; refine ⟨?_, ?_, ?_, ?_, ?_, ?_, ?_⟩ <;> assumption)
      | (go_split_ands; exact HST.out _ (Below.alloc (by assumption) (Below.size (by assumption)) _)))
    (first
      | (go_at_call 21; (with_reducible refine (CD.out _).mono ?_); rintro e w5 ⟨rfl, rfl⟩))
  all_goals
    rw [HW.out.1]
    go_wp2_with (go_at_call 21; refine (digits06 _ (by omega) (by omega) _).mono ?_; rintro e w5 ⟨rfl, rfl⟩)
    go_ret
    refine ⟨ret_arr (Eq.trans ?_ HL.out.symm), ?_⟩
    · simp [joinBy, wordsOf, wFate, wTwin]
    · exact HW.out.2.1
set_option maxHeartbeats 6400000 in
set_option maxRecDepth 100000 in
theorem refLine_3d (d : Int) (p b : Nat) (hg : goodA ⟨3, 0, 0, ⟨3, d, 0, p, b⟩, []⟩ = true) (A : Option Addr) (len c : Nat) (w : World) (hA : U8At w A []) (hn : ([] : List UInt8).length = len) (h0 : 1 ≤ d) (h1 : d ≤ 64) (hp : p < 4294967296) (hb : b < 4294967296) :
    Calls Tryd.prog 9 #[.agg (Ac.cells ⟨3, 0, 0, ⟨3, d, 0, p, b⟩, []⟩ A len c).toArray] w fun e w' => e = .returned (.string ⟨(lineL ⟨3, 0, 0, ⟨3, d, 0, p, b⟩, []⟩).toArray⟩) ∧ Below w.heap.size w w' := by
  have hb1 : Below w.heap.size w (w.alloc (.cells (Ac.cells ⟨3, 0, 0, ⟨3, d, 0, p, b⟩, []⟩ A len c).toArray 29)) := (Below.refl _ _).alloc (Nat.le_refl _) _
  have C1 := refGoodV ⟨3, 0, 0, ⟨3, d, 0, p, b⟩, []⟩ A len c true hg _ (hA.keep hb1) hn
  have HX := Lib.hid (And.intro hb1 (And.intro (boxAt_made w (Ac.cells ⟨3, 0, 0, ⟨3, d, 0, p, b⟩, []⟩ A len c) 29) hA))
  have HL := Lib.hid (congrArg (fun z : List UInt8 => z) (lineL_good hg))
  have hl0 := itoa_len (n := 0) (by omega) (by omega)
  have CD := Lib.hid (fun W => digits06 0 (by omega) (by omega) W)
  unfold Ac.cells at C1
  have C1 := Lib.hid C1
  have HN := Lib.hid hn
  clear hb1 hA hg hn
  unfold Ac.cells 
  have hl1 := itoa_len (n := d) (by omega) (by omega)
  have hl2 := itoa_len (n := (p : Int)) (by omega) (by omega)
  have hl3 := itoa_len (n := (b : Int)) (by omega) (by omega)
  go_enter Tryd.func9, Tryd.ntmps9
  go_wp2_with fail
  refine C1.out.mono ?_
  rintro e w1 ⟨rfl, hq⟩
  have hbx := HX.out.2.1.keep hq
  have hb2 := HX.out.1.trans (hq.mono HX.out.1.size)
  have r0 := hbx 0 _ rfl
  have r1 := hbx 1 _ rfl
  have r2 := hbx 2 _ rfl
  have r3 := hbx 3 _ rfl
  have r4 := hbx 4 _ rfl
  have r5 := hbx 5 _ rfl
  have r6 := hbx 6 _ rfl
  have r7 := hbx 7 _ rfl
  have r8 := hbx 8 _ rfl
  have HST : Hid (∀ W, Below w1.heap.size w1 W → Below w1.heap.size w1 W ∧ W.cell? ⟨w.heap.size, 1, none⟩ = some (.int .i64 (0)) ∧ W.cell? ⟨w.heap.size, 3, none⟩ = some (.int .i64 3) ∧ W.cell? ⟨w.heap.size, 4, none⟩ = some (.int .i64 d) ∧ W.cell? ⟨w.heap.size, 5, none⟩ = some (.int .i64 0) ∧ W.cell? ⟨w.heap.size, 6, none⟩ = some (.int .u32 (p : Int)) ∧ W.cell? ⟨w.heap.size, 7, none⟩ = some (.int .u32 (b : Int))) := fun W hW =>
    ⟨hW, hbx.keep hW 1 _ rfl, hbx.keep hW 3 _ rfl, hbx.keep hW 4 _ rfl, hbx.keep hW 5 _ rfl, hbx.keep hW 6 _ rfl, hbx.keep hW 7 _ rfl⟩
  have hnew := World.new_ne w1 ⟨w.heap.size, 0, none⟩ r0
  have hbW : Below w1.heap.size w1 (w1.alloc (.cells #[.int .i64 3, .int .i64 d, .int .i64 0, .int .u32 (p : Int), .int .u32 (b : Int)] 26)).drew := ((Below.refl _ _).alloc (Nat.le_refl _) _).drew
  obtain ⟨W2, hW2⟩ : ∃ W2, (w1.alloc (.cells #[.int .i64 3, .int .i64 d, .int .i64 0, .int .u32 (p : Int), .int .u32 (b : Int)] 26)).drew = W2 := ⟨_, rfl⟩
  have f0 : W2.cell? ⟨w1.heap.size, 0, none⟩ = some (.int .i64 3) := by rw [← hW2]; simp
  have f1 : W2.cell? ⟨w1.heap.size, 1, none⟩ = some (.int .i64 d) := by rw [← hW2]; simp
  have f2 : W2.cell? ⟨w1.heap.size, 2, none⟩ = some (.int .i64 0) := by rw [← hW2]; simp
  have f3 : W2.cell? ⟨w1.heap.size, 3, none⟩ = some (.int .u32 (p : Int)) := by rw [← hW2]; simp
  have f4 : W2.cell? ⟨w1.heap.size, 4, none⟩ = some (.int .u32 (b : Int)) := by rw [← hW2]; simp
  rw [hW2] at hbW
  have s0 := hbx.keep hbW 0 _ rfl
  have s2 := hbx.keep hbW 2 _ rfl
  have s8 := hbx.keep hbW 8 _ rfl
  have HW := Lib.hid (And.intro hW2 (And.intro (hb2.trans (Below.mono hbW hb2.size)) (HX.out.2.2.keep hb2 |>.keep hbW)))
  have HB := Lib.hid (And.intro hb2 hbx)
  clear hq hbx hb2 hbW hW2
  go_wp2_with fail
  go_region_held (fun W => Below w1.heap.size w1 W ∧ W.cell? ⟨w.heap.size, 1, none⟩ = some (.int .i64 (0)) ∧ W.cell? ⟨w.heap.size, 3, none⟩ = some (.int .i64 3) ∧ W.cell? ⟨w.heap.size, 4, none⟩ = some (.int .i64 d) ∧ W.cell? ⟨w.heap.size, 5, none⟩ = some (.int .i64 0) ∧ W.cell? ⟨w.heap.size, 6, none⟩ = some (.int .u32 (p : Int)) ∧ W.cell? ⟨w.heap.size, 7, none⟩ = some (.int .u32 (b : Int)))
    (first
      | exact HST.out _ (Below.refl _ _).drew
      | exact HST.out _ ((Below.refl _ _).alloc (Nat.le_refl _) _).drew
      | exact HST.out _ ((Below.refl _ _).drew.alloc (Nat.le_refl _) _)
      | (go_split_ands; refine ⟨?_, ?_, ?_, ?_, ?_, ?_, ?_⟩ <;> assumption)
      | (go_split_ands; exact HST.out _ (Below.alloc (by assumption) (Below.size (by assumption)) _)))
    (first
      | (go_at_call 21; (with_reducible refine (CD.out _).mono ?_); rintro e w5 ⟨rfl, rfl⟩))
  all_goals
    have CP := Lib.hid (fun W : Later W2 => (digits06 (p : Int) (by omega) (by omega) W.val).mono fun e w' h => (⟨h.1, h.2.symm⟩ : e = .returned (.string ⟨(Lib.itoa (p : Int)).toArray⟩) ∧ w' = W.val))
    have CB := Lib.hid (fun W : Later W2 => (digits06 (b : Int) (by omega) (by omega) W.val).mono fun e w' h => (⟨h.1, h.2.symm⟩ : e = .returned (.string ⟨(Lib.itoa (b : Int)).toArray⟩) ∧ w' = W.val))
    have cells : ∀ W : Later W2, W.val.cell? ⟨w1.heap.size, 3, none⟩ = some (.int .u32 (p : Int)) ∧ W.val.cell? ⟨w1.heap.size, 4, none⟩ = some (.int .u32 (b : Int)) := fun W => ⟨Later.cell f3 W, Later.cell f4 W⟩
    rw [HW.out.1]
    go_wp2_with (go_at_call 21; refine (digits06 _ (by omega) (by omega) _).mono ?_; rintro e w5 ⟨rfl, rfl⟩)
    refine wp_region_later (by kernel_rfl) (by kernel_rfl) ?_
    iterate 6 (go_big_quiet_step (fail))
    go_big_quiet_step (exact later_of (below_of_same (CP.out _)))
    iterate 5 (go_big_quiet_step (fail))
    go_big_quiet_step (exact later_of (below_of_same (CB.out _)))
    repeat (go_big_quiet_step (fail))
    refine wpQuiet_nil ?_
    rintro w9 ⟨⟨W, hW⟩, rfl⟩
    clear cells
    go_wp2
    go_ret
    refine ⟨ret_arr (Eq.trans ?_ HL.out.symm), ?_⟩
    · simp [joinBy, wordsOf, wFate, wBend]
    · exact HW.out.2.1.trans (Below.mono hW HW.out.2.1.size)
set_option maxHeartbeats 6400000 in
set_option maxRecDepth 100000 in
theorem refLine_6 (i : Int) (b : List UInt8) (hg : goodA ⟨6, i, 0, Fa0, b⟩ = true) (A : Option Addr) (len c : Nat) (w : World) (hA : U8At w A b) (hn : (b : List UInt8).length = len) (h0 : 0 ≤ i) (h1 : i ≤ 63) (hm : len ≤ 1024) :
    Calls Tryd.prog 9 #[.agg (Ac.cells ⟨6, i, 0, Fa0, b⟩ A len c).toArray] w fun e w' => e = .returned (.string ⟨(lineL ⟨6, i, 0, Fa0, b⟩).toArray⟩) ∧ Below w.heap.size w w' := by
  have hb1 : Below w.heap.size w (w.alloc (.cells (Ac.cells ⟨6, i, 0, Fa0, b⟩ A len c).toArray 29)) := (Below.refl _ _).alloc (Nat.le_refl _) _
  have C1 := refGoodV ⟨6, i, 0, Fa0, b⟩ A len c true hg _ (hA.keep hb1) hn
  have HX := Lib.hid (And.intro hb1 (And.intro (boxAt_made w (Ac.cells ⟨6, i, 0, Fa0, b⟩ A len c) 29) hA))
  have HL := Lib.hid (congrArg (fun z : List UInt8 => z) (lineL_good hg))
  have hl0 := itoa_len (n := i) (by omega) (by omega)
  have CD := Lib.hid (fun W => digits06 i (by omega) (by omega) W)
  unfold Ac.cells Fa0 at C1
  have C1 := Lib.hid C1
  have HN := Lib.hid hn
  clear hb1 hA hg hn
  unfold Ac.cells Fa0
  go_enter Tryd.func9, Tryd.ntmps9
  go_wp2_with fail
  refine C1.out.mono ?_
  rintro e w1 ⟨rfl, hq⟩
  have hbx := HX.out.2.1.keep hq
  have hb2 := HX.out.1.trans (hq.mono HX.out.1.size)
  have r0 := hbx 0 _ rfl
  have r1 := hbx 1 _ rfl
  have r2 := hbx 2 _ rfl
  have r3 := hbx 3 _ rfl
  have r4 := hbx 4 _ rfl
  have r5 := hbx 5 _ rfl
  have r6 := hbx 6 _ rfl
  have r7 := hbx 7 _ rfl
  have r8 := hbx 8 _ rfl
  have HST : Hid (∀ W, Below w1.heap.size w1 W → Below w1.heap.size w1 W ∧ W.cell? ⟨w.heap.size, 1, none⟩ = some (.int .i64 (i)) ∧ W.cell? ⟨w.heap.size, 3, none⟩ = some (.int .i64 0) ∧ W.cell? ⟨w.heap.size, 4, none⟩ = some (.int .i64 0) ∧ W.cell? ⟨w.heap.size, 5, none⟩ = some (.int .i64 0) ∧ W.cell? ⟨w.heap.size, 6, none⟩ = some (.int .u32 0) ∧ W.cell? ⟨w.heap.size, 7, none⟩ = some (.int .u32 0)) := fun W hW =>
    ⟨hW, hbx.keep hW 1 _ rfl, hbx.keep hW 3 _ rfl, hbx.keep hW 4 _ rfl, hbx.keep hW 5 _ rfl, hbx.keep hW 6 _ rfl, hbx.keep hW 7 _ rfl⟩
  have hnew := World.new_ne w1 ⟨w.heap.size, 0, none⟩ r0
  have hbW : Below w1.heap.size w1 (w1.alloc (.cells #[.int .i64 0, .int .i64 0, .int .i64 0, .int .u32 0, .int .u32 0] 26)).drew := ((Below.refl _ _).alloc (Nat.le_refl _) _).drew
  obtain ⟨W2, hW2⟩ : ∃ W2, (w1.alloc (.cells #[.int .i64 0, .int .i64 0, .int .i64 0, .int .u32 0, .int .u32 0] 26)).drew = W2 := ⟨_, rfl⟩
  have f0 : W2.cell? ⟨w1.heap.size, 0, none⟩ = some (.int .i64 0) := by rw [← hW2]; simp
  have f1 : W2.cell? ⟨w1.heap.size, 1, none⟩ = some (.int .i64 0) := by rw [← hW2]; simp
  have f2 : W2.cell? ⟨w1.heap.size, 2, none⟩ = some (.int .i64 0) := by rw [← hW2]; simp
  have f3 : W2.cell? ⟨w1.heap.size, 3, none⟩ = some (.int .u32 0) := by rw [← hW2]; simp
  have f4 : W2.cell? ⟨w1.heap.size, 4, none⟩ = some (.int .u32 0) := by rw [← hW2]; simp
  rw [hW2] at hbW
  have s0 := hbx.keep hbW 0 _ rfl
  have s2 := hbx.keep hbW 2 _ rfl
  have s8 := hbx.keep hbW 8 _ rfl
  have HW := Lib.hid (And.intro hW2 (And.intro (hb2.trans (Below.mono hbW hb2.size)) (HX.out.2.2.keep hb2 |>.keep hbW)))
  have HB := Lib.hid (And.intro hb2 hbx)
  clear hq hbx hb2 hbW hW2
  go_wp2_with fail
  go_region_held (fun W => Below w1.heap.size w1 W ∧ W.cell? ⟨w.heap.size, 1, none⟩ = some (.int .i64 (i)) ∧ W.cell? ⟨w.heap.size, 3, none⟩ = some (.int .i64 0) ∧ W.cell? ⟨w.heap.size, 4, none⟩ = some (.int .i64 0) ∧ W.cell? ⟨w.heap.size, 5, none⟩ = some (.int .i64 0) ∧ W.cell? ⟨w.heap.size, 6, none⟩ = some (.int .u32 0) ∧ W.cell? ⟨w.heap.size, 7, none⟩ = some (.int .u32 0))
    (first
      | exact HST.out _ (Below.refl _ _).drew
      | exact HST.out _ ((Below.refl _ _).alloc (Nat.le_refl _) _).drew
      | exact HST.out _ ((Below.refl _ _).drew.alloc (Nat.le_refl _) _)
      | (go_split_ands; refine ⟨?_, ?_, ?_, ?_, ?_, ?_, ?_⟩ <;> assumption)
      | (go_split_ands; exact HST.out _ (Below.alloc (by assumption) (Below.size (by assumption)) _)))
    (first
      | (go_at_call 21; (with_reducible refine (CD.out _).mono ?_); rintro e w5 ⟨rfl, rfl⟩))
  all_goals
    have HU := Lib.hid (And.intro HW.out.2.2 HN.out)
    rw [HW.out.1]
    go_wp2
    go_loopw [5, 6] (fun s i wr => ∃ k : Nat, k ≤ len ∧ i = .int .i64 k ∧ s = .string ⟨(hexOf (b.take k)).toArray⟩ ∧ Below W2.heap.size W2 wr) (fun _ i _ => len - (intOf i).toNat)
    case atStart => exact ⟨0, Nat.zero_le _, rfl, rfl, Below.refl _ _⟩
    case round =>
      obtain ⟨k, hk, rfl, rfl, hb⟩ := hrel
      have t8 := (hb.cell (p := ⟨w.heap.size, 8, none⟩) (World.block_lt_of_cell? _ _ s8)).trans s8
      have hxl : (hexOf (b.take k)).length ≤ 2048 := by rw [hexOf_len, List.length_take]; omega
      by_cases hlt : k < len
      · have hlt' : k < b.length := by rw [HU.out.2]; exact hlt
        obtain ⟨blk, off, rfl, hcell⟩ := (HU.out.1.keep hb).at_ hlt'
        have hsn := hexOf_snoc b k hlt'
        have C5 := fun W => refHex b[k] (b[k].toNat : Int) rfl W
        obtain ⟨v, hv⟩ : ∃ v, b[k] = v := ⟨_, rfl⟩
        rw [hv] at hcell hsn C5
        clear hv
        have hsn := Lib.hid hsn
        have C5 := Lib.hid C5
        obtain ⟨q, hq⟩ : ∃ q, hexOf (b.take k) = q := ⟨_, rfl⟩
        have hl2 : (hexOf [v]).length = 2 := rfl
        obtain ⟨q2, hq2⟩ : ∃ q, hexOf [v] = q := ⟨_, rfl⟩
        rw [hq] at hxl ⊢
        have HQ := Lib.hid (And.intro hq hq2)
        rw [hq2] at C5 hl2
        clear hq hq2
        go_wp2_with fail
        refine (C5.out _).mono ?_
        rintro e w6 ⟨rfl, hq6⟩
        have HB6 := Lib.hid (hb.trans (hq6.mono hb.size))
        clear hq6
        go_wp2
        go_roundw
        case rel => exact ⟨k + 1, by omega, by go_num, by rw [hsn.out, HQ.out.1, ← show hexOf [v] = [hexDig (v.toNat / 16), hexDig (v.toNat % 16)] from rfl, HQ.out.2]; first | rfl | (congr 1; apply ByteArray.ext; simp), HB6.out⟩
        case measure => simp [intOf]; omega
      · obtain rfl : k = len := by omega
        have ht : b.take k = b := List.take_of_length_le (by rw [HU.out.2]; exact Nat.le_refl _)
        rw [ht] at hxl ⊢
        have hlx := hexOf_len b
        obtain ⟨q, hq⟩ : ∃ q, hexOf b = q := ⟨_, rfl⟩
        rw [hq] at hxl hlx ⊢
        have HFB := Lib.hid (HW.out.2.1.trans (Below.mono hb HW.out.2.1.size))
        have HQ := Lib.hid hq
        clear hq hb
        by_cases hqe : q = []
        · have hbe : b = [] := List.eq_nil_of_length_eq_zero (by rw [hqe, List.length_nil] at hlx; omega)
          subst hqe
          have HBE := Lib.hid hbe
          clear hbe
          go_wp2
          go_ret
          refine ⟨ret_arr (Eq.trans ?_ HL.out.symm), HFB.out⟩
          simp [joinBy, wordsOf, wSend, HBE.out]
        · have hbe : b ≠ [] := fun h => hqe (List.eq_nil_of_length_eq_zero (by rw [h, List.length_nil] at hlx; omega))
          have HBE := Lib.hid hbe
          have hqi : q.isEmpty = false := by cases q with | nil => exact absurd rfl hqe | cons a r => rfl
          clear hbe
          go_wp2
          go_ret
          refine ⟨ret_arr (Eq.trans ?_ HL.out.symm), HFB.out⟩
          rw [← HQ.out]
          simp [joinBy, wordsOf, wSend, HBE.out]
set_option maxHeartbeats 1600000 in
theorem refLine (x : Ac) (hx : x.Fits) (A : Option Addr) (len c : Nat) (w : World) (hA : U8At w A x.b) (hn : x.b.length = len) :
    Calls Tryd.prog 9 #[.agg (x.cells A len c).toArray] w fun e w' => e = .returned (.string ⟨(lineL x).toArray⟩) ∧ Below w.heap.size w w' := by
  by_cases hg : goodA x = true
  · have hp := hx.p
    have hb := hx.b
    rcases good_shape hg with ⟨n, rfl, h0, h1⟩ | ⟨f, rfl, hf⟩ | ⟨i, n, rfl, h0, h1, h2, h3⟩ | ⟨i, b, rfl, h0, h1, h2⟩ | ⟨k, i, rfl, h0, h1, hk⟩
    · exact refLine_1 n hg A len c w hA hn h0 h1
    · rcases goodF_shape hf with rfl | ⟨d, rfl, h0, h1⟩ | ⟨d, a, rfl, h0, h1, h2, h3⟩ | ⟨d, p, b, rfl, h0, h1⟩
      · exact refLine_3a 0 hg A len c w hA hn rfl
      · exact refLine_3b d hg A len c w hA hn h0 h1
      · exact refLine_3c d a hg A len c w hA hn h0 h1 h2 h3
      · exact refLine_3d d p b hg A len c w hA hn h0 h1 hp hb
    · exact refLine_2 i n hg A len c w hA hn h0 h1 h2 h3
    · exact refLine_6 i b hg A len c w hA hn h0 h1 (by simp only at hn; omega)
    · rcases hk with rfl | rfl | rfl | rfl
      · exact refLine_4 i hg A len c w hA hn h0 h1
      · exact refLine_5 i hg A len c w hA hn h0 h1
      · exact refLine_7 i hg A len c w hA hn h0 h1
      · exact refLine_8 i hg A len c w hA hn h0 h1
  · have hb1 : Below w.heap.size w (w.alloc (.cells (Ac.cells x A len c).toArray 29)) := (Below.refl _ _).alloc (Nat.le_refl _) _
    have C1 := refGoodV x A len c false (by simpa using hg) _ (hA.keep hb1) hn
    have HL : Hid (lineL x = [63]) := by unfold Hid lineL; rw [if_neg hg]
    have HB := Lib.hid hb1
    clear hg hA hn hb1 hx
    obtain ⟨k, node, n, ⟨fk, fd, fa, fp, fb⟩, b⟩ := x
    unfold Ac.cells at C1
    have C1 := Lib.hid C1
    unfold Ac.cells
    go_enter Tryd.func9, Tryd.ntmps9
    go_wp2_with fail
    refine C1.out.mono ?_
    rintro e w1 ⟨rfl, hq⟩
    have HF := Lib.hid (HB.out.trans (hq.mono HB.out.size))
    clear hq
    go_wp2
    go_ret
    exact ⟨ret_str (by rw [HL.out]), HF.out⟩
set_option maxHeartbeats 3200000 in
set_option maxRecDepth 100000 in
theorem refPrint (A : Option Addr) (len c : Nat) (xs : List Aw) (hl : xs.length = len) (hm : len ≤ 10000) (hok : ∀ x ∈ xs, x.Ok) (w : World) (hA : ActsAt w A xs) :
    Calls Tryd.prog 11 #[.slice A len c] w fun e w' => e = .returned (.string ⟨(printL (acs xs)).toArray⟩) ∧ Below w.heap.size w w' := by
  have HX := Lib.hid (And.intro hl (And.intro hok hA))
  clear hl hok hA
  go_enter Tryd.func11, Tryd.ntmps11
  go_wp2
  go_loopw [3, 4] (fun s i wr => ∃ k : Nat, k ≤ len ∧ i = .int .i64 k ∧ s = .string ⟨(printL ((acs xs).take k)).toArray⟩ ∧ Below w.heap.size w wr) (fun _ i _ => len - (intOf i).toNat)
  case atStart => exact ⟨0, Nat.zero_le _, rfl, rfl, Below.refl _ _⟩
  case round =>
    obtain ⟨k, hk, rfl, rfl, hb⟩ := hrel
    by_cases hlt : k < len
    · have hkx : k < xs.length := by rw [HX.out.1]; exact hlt
      have hkm : k < (acs xs).length := by unfold acs; rw [List.length_map]; exact hkx
      obtain ⟨blk, off, rfl, hcells, hU⟩ := (HX.out.2.2.keep hb) k xs[k] (List.getElem?_eq_getElem hkx)
      have hxok := HX.out.2.1 xs[k] (List.getElem_mem hkx)
      have hsn := printL_snoc (acs xs) k hkm
      have hgx : (acs xs)[k] = xs[k].a := by simp [acs]
      rw [hgx] at hsn
      obtain ⟨x, hx⟩ : ∃ x, xs[k] = x := ⟨_, rfl⟩
      rw [hx] at hcells hU hxok hsn
      clear hx hkx hgx hkm
      have hpl : (printL ((acs xs).take k)).length ≤ 2201 * k := by
        have h1 := printL_len ((acs xs).take k) (fun e he => by
          have he := List.mem_of_mem_take he
          unfold acs at he
          obtain ⟨y, hy, rfl⟩ := List.mem_map.1 he
          exact (HX.out.2.1 y hy).fits)
        have h2 : ((acs xs).take k).length ≤ k := List.length_take_le _ _
        omega
      have hll := lineL_len hxok.fits
      have C1 := refLine x.a hxok.fits x.A x.n x.c wr hU hxok.len
      obtain ⟨⟨xk, node, n, ⟨fk, fd, fa, fp, fb⟩, b⟩, xA, xn, xc⟩ := x
      have p0 := hcells 0 _ rfl
      have p1 := hcells 1 _ rfl
      have p2 := hcells 2 _ rfl
      have p3 := hcells 3 _ rfl
      have p4 := hcells 4 _ rfl
      have p5 := hcells 5 _ rfl
      have p6 := hcells 6 _ rfl
      have p7 := hcells 7 _ rfl
      have p8 := hcells 8 _ rfl
      simp only [Nat.add_zero] at p0 p1 p2 p3 p4 p5 p6 p7 p8 C1 hsn hll
      obtain ⟨L, hL⟩ : ∃ L, lineL ⟨xk, node, n, ⟨fk, fd, fa, fp, fb⟩, b⟩ = L := ⟨_, rfl⟩
      rw [hL] at C1 hsn hll
      obtain ⟨p, hp⟩ : ∃ p, printL ((acs xs).take k) = p := ⟨_, rfl⟩
      rw [hp] at hsn hpl ⊢
      unfold Ac.cells at C1
      have C1 := Lib.hid C1
      have hsn := Lib.hid hsn
      have HB := Lib.hid hb
      clear hU hcells hxok hL hp hb
      go_wp2_with fail
      refine C1.out.mono ?_
      rintro e w1 ⟨rfl, hq1⟩
      have hb2 := Lib.hid (HB.out.trans (hq1.mono HB.out.size))
      clear hq1
      go_wp2
      go_roundw
      case rel => exact ⟨k + 1, by omega, by go_num, by rw [hsn.out]; congr 1; apply ByteArray.ext; simp, hb2.out⟩
      case measure => simp [intOf]; omega
    · have ht : Hid ((acs xs).take k = acs xs) := List.take_of_length_le (by unfold acs; rw [List.length_map, HX.out.1]; omega)
      have HB := Lib.hid hb
      clear hb
      go_wp2
      go_ret
      exact ⟨ret_str (by rw [ht.out]), HB.out⟩
end Go.Proofs.YtndpdonlombodaaDoor
