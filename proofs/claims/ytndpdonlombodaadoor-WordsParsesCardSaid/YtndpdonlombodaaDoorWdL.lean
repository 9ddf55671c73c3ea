/- words.fateLine, words.Line. -/
import Derived.Test.YtndpdonlombodaaDoorWdP
import Derived.Test.YtndpdonlombodaaDoorActF
import Derived.Deep.RegionHeld3
import Derived.Deep.DrawnRows
namespace Go.Proofs.YtndpdonlombodaaDoor
open Go.RowKit Law
set_option linter.unusedVariables false
set_option linter.unusedSimpArgs false

theorem rowAt_two (w : World) (o : Obj) (vs : List Value) (t : TypeId) : RowAt ((w.alloc o).alloc (.cells vs.toArray t)) (some ⟨w.heap.size + 1, 0, none⟩) vs := by
  have h := RowAt.made (w.alloc o) vs t
  rwa [show (w.alloc o).heap.size = w.heap.size + 1 by simp] at h
set_option maxHeartbeats 1600000 in
theorem wordsFateLine (f : Fa) (hf : goodF f = true) (hp : f.p < 4294967296) (hb : f.b < 4294967296) (w : World) (hP : P10 w) :
    Calls Tryd.prog 19 #[.agg f.cells.toArray] w fun e w' => e = .returned (.string ⟨(joinBy 32 (wordsOf ⟨3, 0, 0, f, []⟩)).toArray⟩) ∧ Below w.heap.size w w' := by
  have HP := Lib.hid hP
  clear hP
  rcases goodF_shape hf with rfl | ⟨d, rfl, h0, h1⟩ | ⟨d, a, rfl, h0, h1, h2, h3⟩ | ⟨d, p, b, rfl, h0, h1⟩
  · clear hf hp hb
    unfold Fa.cells
    go_enter Tryd.func19, Tryd.ntmps19
    go_wp2
    go_ret
    exact ⟨ret_str rfl, (Below.refl _ _).alloc (Nat.le_refl _) _⟩
  · clear hf
    simp only at hp hb
    unfold Fa.cells
    go_enter Tryd.func19, Tryd.ntmps19
    go_wp2_with fail
    refine (wordsJoin [102, 97, 116, 101, 32, 103, 111] [d] (some ⟨w.heap.size + 1, 0, none⟩) 1 1 rfl (by decide) (by decide) ?hI _ ?hA (HP.out.below ?hB)).mono ?_
    case hI => intro z hz; simp at hz; omega
    case hA => exact rowAt_two _ _ (intV [d]) _
    case hB => exact ((Below.refl _ _).alloc (Nat.le_refl _) _).alloc (by simp) _
    rintro e w1 ⟨rfl, hq⟩
    have HB := Lib.hid ((((Below.refl _ _).alloc (Nat.le_refl _) _).alloc (by simp) _).trans (hq.mono (by simp <;> omega)))
    clear hq
    go_wp2
    go_ret
    exact ⟨ret_str (by simp [joinBy, wordsOf, tailsOf, wFate, wGo]), HB.out⟩
  · clear hf
    simp only at hp hb
    unfold Fa.cells
    go_enter Tryd.func19, Tryd.ntmps19
    go_wp2_with fail
    refine (wordsJoin [102, 97, 116, 101, 32, 116, 119, 105, 110] [d, a] (some ⟨w.heap.size + 1, 0, none⟩) 2 2 rfl (by decide) (by decide) ?hI _ ?hA (HP.out.below ?hB)).mono ?_
    case hI => intro z hz; simp at hz; omega
    case hA => exact rowAt_two _ _ (intV [d, a]) _
    case hB => exact ((Below.refl _ _).alloc (Nat.le_refl _) _).alloc (by simp) _
    rintro e w1 ⟨rfl, hq⟩
    have HB := Lib.hid ((((Below.refl _ _).alloc (Nat.le_refl _) _).alloc (by simp) _).trans (hq.mono (by simp <;> omega)))
    clear hq
    go_wp2
    go_ret
    exact ⟨ret_str (by simp [joinBy, wordsOf, tailsOf, wFate, wTwin]), HB.out⟩
  · clear hf
    simp only at hp hb
    unfold Fa.cells
    go_enter Tryd.func19, Tryd.ntmps19
    go_wp2_with fail
    refine (wordsJoin [102, 97, 116, 101, 32, 98, 101, 110, 100] [d, (p : Int), (b : Int)] (some ⟨w.heap.size + 1, 0, none⟩) 3 3 rfl (by decide) (by decide) ?hI _ ?hA (HP.out.below ?hB)).mono ?_
    case hI => intro z hz; simp at hz; omega
    case hA => exact rowAt_two _ _ (intV [d, (p : Int), (b : Int)]) _
    case hB => exact ((Below.refl _ _).alloc (Nat.le_refl _) _).alloc (by simp) _
    rintro e w1 ⟨rfl, hq⟩
    have HB := Lib.hid ((((Below.refl _ _).alloc (Nat.le_refl _) _).alloc (by simp) _).trans (hq.mono (by simp <;> omega)))
    clear hq
    go_wp2
    go_ret
    exact ⟨ret_str (by simp [joinBy, wordsOf, tailsOf, wFate, wBend]), HB.out⟩
theorem lineL_good {x : Ac} (h : goodA x = true) : lineL x = joinBy 32 (wordsOf x) := by unfold lineL; rw [if_pos h]
/-- An act's box: what its cells are. -/
def BoxAt (w : World) (B : Nat) (cs : List Value) : Prop := ∀ j v, cs[j]? = some v → w.cell? ⟨B, j, none⟩ = some v
theorem boxAt_made (w : World) (cs : List Value) (t : TypeId) : BoxAt (w.alloc (.cells cs.toArray t)) w.heap.size cs := fun j v hj => by
  rw [World.cell?_alloc_at _ _ _ _ (by simp)]
  simpa using hj
theorem BoxAt.keep {w w' : World} {B : Nat} {cs : List Value} (h : BoxAt w B cs) (hb : Below w.heap.size w w') : BoxAt w' B cs := fun j v hj =>
  (hb.cell (p := ⟨B, j, none⟩) (World.block_lt_of_cell? _ _ (h j v hj))).trans (h j v hj)
set_option maxHeartbeats 3200000 in
set_option maxRecDepth 100000 in
theorem wordsLine_1 (n : Int) (hg : goodA ⟨1, 0, n, Fa0, []⟩ = true) (A : Option Addr) (len c : Nat) (w : World) (hA : U8At w A []) (hn : ([] : List UInt8).length = len) (hP : P10 w) (h0 : 0 < n) (h1 : n < 65) :
    Calls Tryd.prog 8 #[.agg (Ac.cells ⟨1, 0, n, Fa0, []⟩ A len c).toArray] w fun e w' => e = .returned (.string ⟨(lineL ⟨1, 0, n, Fa0, []⟩).toArray⟩) ∧ Below w.heap.size w w' := by
  have hb1 : Below w.heap.size w (w.alloc (.cells (Ac.cells ⟨1, 0, n, Fa0, []⟩ A len c).toArray 29)) := (Below.refl _ _).alloc (Nat.le_refl _) _
  have C1 := scriptGoodV ⟨1, 0, n, Fa0, []⟩ A len c true hg _ (hA.keep hb1) hn
  have HX := Lib.hid (And.intro hP (And.intro hb1 (And.intro (boxAt_made w (Ac.cells ⟨1, 0, n, Fa0, []⟩ A len c) 29) hA)))
  have HL := Lib.hid (lineL_good hg)
  unfold Ac.cells Fa0 at C1
  have C1 := Lib.hid C1
  clear hP hb1 hA hg
  unfold Ac.cells Fa0
  go_enter Tryd.func8, Tryd.ntmps8
  go_wp2_with fail
  refine C1.out.mono ?_
  rintro e w1 ⟨rfl, hq⟩
  have hbx := HX.out.2.2.1.keep hq
  have hb2 := HX.out.2.1.trans (hq.mono HX.out.2.1.size)
  have r0 := hbx 0 _ rfl
  have r1 := hbx 1 _ rfl
  have r2 := hbx 2 _ rfl
  have r3 := hbx 3 _ rfl
  have r4 := hbx 4 _ rfl
  have r5 := hbx 5 _ rfl
  have r6 := hbx 6 _ rfl
  have r7 := hbx 7 _ rfl
  have r8 := hbx 8 _ rfl
  have HB := Lib.hid (And.intro hb2 (hbx))
  clear hq hbx hb2
  go_wp2_with fail
  refine (wordsJoin [116, 105, 99, 107] [n] (some ⟨w1.heap.size, 0, none⟩) 1 1 rfl (by decide) (by decide) ?hI _ ?hA ((HX.out.1.below HB.out.1).below ?hB)).mono ?_
  case hI => intro z hz; simp at hz; omega
  case hA => exact RowAt.made w1 (intV [n]) _
  case hB => exact (Below.refl _ _).alloc (Nat.le_refl _) _
  rintro e w2 ⟨rfl, hq⟩
  have HF := Lib.hid ((HB.out.1.alloc HB.out.1.size _).trans (hq.mono (by have := HB.out.1.size; simp; omega)))
  clear hq
  go_wp2
  go_ret
  refine ⟨ret_str (Eq.trans ?_ (congrArg (fun z : List UInt8 => (⟨z.toArray⟩ : ByteArray)) HL.out.symm)), HF.out⟩
  simp [joinBy, wordsOf, tailsOf, wTick]
set_option maxHeartbeats 3200000 in
set_option maxRecDepth 100000 in
theorem wordsLine_2 (i n : Int) (hg : goodA ⟨2, i, n, Fa0, []⟩ = true) (A : Option Addr) (len c : Nat) (w : World) (hA : U8At w A []) (hn : ([] : List UInt8).length = len) (hP : P10 w) (h0 : 0 ≤ i) (h1 : i ≤ 63) (h2 : -1048576 ≤ n) (h3 : n ≤ 1048576) :
    Calls Tryd.prog 8 #[.agg (Ac.cells ⟨2, i, n, Fa0, []⟩ A len c).toArray] w fun e w' => e = .returned (.string ⟨(lineL ⟨2, i, n, Fa0, []⟩).toArray⟩) ∧ Below w.heap.size w w' := by
  have hb1 : Below w.heap.size w (w.alloc (.cells (Ac.cells ⟨2, i, n, Fa0, []⟩ A len c).toArray 29)) := (Below.refl _ _).alloc (Nat.le_refl _) _
  have C1 := scriptGoodV ⟨2, i, n, Fa0, []⟩ A len c true hg _ (hA.keep hb1) hn
  have HX := Lib.hid (And.intro hP (And.intro hb1 (And.intro (boxAt_made w (Ac.cells ⟨2, i, n, Fa0, []⟩ A len c) 29) hA)))
  have HL := Lib.hid (lineL_good hg)
  unfold Ac.cells Fa0 at C1
  have C1 := Lib.hid C1
  clear hP hb1 hA hg
  unfold Ac.cells Fa0
  go_enter Tryd.func8, Tryd.ntmps8
  go_wp2_with fail
  refine C1.out.mono ?_
  rintro e w1 ⟨rfl, hq⟩
  have hbx := HX.out.2.2.1.keep hq
  have hb2 := HX.out.2.1.trans (hq.mono HX.out.2.1.size)
  have r0 := hbx 0 _ rfl
  have r1 := hbx 1 _ rfl
  have r2 := hbx 2 _ rfl
  have r3 := hbx 3 _ rfl
  have r4 := hbx 4 _ rfl
  have r5 := hbx 5 _ rfl
  have r6 := hbx 6 _ rfl
  have r7 := hbx 7 _ rfl
  have r8 := hbx 8 _ rfl
  have HB := Lib.hid (And.intro hb2 (hbx))
  clear hq hbx hb2
  go_wp2_with fail
  refine (wordsJoin [100, 114, 105, 102, 116] [i, n] (some ⟨w1.heap.size, 0, none⟩) 2 2 rfl (by decide) (by decide) ?hI _ ?hA ((HX.out.1.below HB.out.1).below ?hB)).mono ?_
  case hI => intro z hz; simp at hz; omega
  case hA => exact RowAt.made w1 (intV [i, n]) _
  case hB => exact (Below.refl _ _).alloc (Nat.le_refl _) _
  rintro e w2 ⟨rfl, hq⟩
  have HF := Lib.hid ((HB.out.1.alloc HB.out.1.size _).trans (hq.mono (by have := HB.out.1.size; simp; omega)))
  clear hq
  go_wp2
  go_ret
  refine ⟨ret_str (Eq.trans ?_ (congrArg (fun z : List UInt8 => (⟨z.toArray⟩ : ByteArray)) HL.out.symm)), HF.out⟩
  simp [joinBy, wordsOf, tailsOf, wDrift]
set_option maxHeartbeats 3200000 in
set_option maxRecDepth 100000 in
theorem wordsLine_4 (i : Int) (hg : goodA ⟨4, i, 0, Fa0, []⟩ = true) (A : Option Addr) (len c : Nat) (w : World) (hA : U8At w A []) (hn : ([] : List UInt8).length = len) (hP : P10 w) (h0 : 0 ≤ i) (h1 : i ≤ 63) :
    Calls Tryd.prog 8 #[.agg (Ac.cells ⟨4, i, 0, Fa0, []⟩ A len c).toArray] w fun e w' => e = .returned (.string ⟨(lineL ⟨4, i, 0, Fa0, []⟩).toArray⟩) ∧ Below w.heap.size w w' := by
  have hb1 : Below w.heap.size w (w.alloc (.cells (Ac.cells ⟨4, i, 0, Fa0, []⟩ A len c).toArray 29)) := (Below.refl _ _).alloc (Nat.le_refl _) _
  have C1 := scriptGoodV ⟨4, i, 0, Fa0, []⟩ A len c true hg _ (hA.keep hb1) hn
  have HX := Lib.hid (And.intro hP (And.intro hb1 (And.intro (boxAt_made w (Ac.cells ⟨4, i, 0, Fa0, []⟩ A len c) 29) hA)))
  have HL := Lib.hid (lineL_good hg)
  unfold Ac.cells Fa0 at C1
  have C1 := Lib.hid C1
  clear hP hb1 hA hg
  unfold Ac.cells Fa0
  go_enter Tryd.func8, Tryd.ntmps8
  go_wp2_with fail
  refine C1.out.mono ?_
  rintro e w1 ⟨rfl, hq⟩
  have hbx := HX.out.2.2.1.keep hq
  have hb2 := HX.out.2.1.trans (hq.mono HX.out.2.1.size)
  have r0 := hbx 0 _ rfl
  have r1 := hbx 1 _ rfl
  have r2 := hbx 2 _ rfl
  have r3 := hbx 3 _ rfl
  have r4 := hbx 4 _ rfl
  have r5 := hbx 5 _ rfl
  have r6 := hbx 6 _ rfl
  have r7 := hbx 7 _ rfl
  have r8 := hbx 8 _ rfl
  have HB := Lib.hid (And.intro hb2 (hbx))
  clear hq hbx hb2
  go_wp2_with fail
  refine (wordsJoin [99, 114, 97, 115, 104] [i] (some ⟨w1.heap.size, 0, none⟩) 1 1 rfl (by decide) (by decide) ?hI _ ?hA ((HX.out.1.below HB.out.1).below ?hB)).mono ?_
  case hI => intro z hz; simp at hz; omega
  case hA => exact RowAt.made w1 (intV [i]) _
  case hB => exact (Below.refl _ _).alloc (Nat.le_refl _) _
  rintro e w2 ⟨rfl, hq⟩
  have HF := Lib.hid ((HB.out.1.alloc HB.out.1.size _).trans (hq.mono (by have := HB.out.1.size; simp; omega)))
  clear hq
  go_wp2
  go_ret
  refine ⟨ret_str (Eq.trans ?_ (congrArg (fun z : List UInt8 => (⟨z.toArray⟩ : ByteArray)) HL.out.symm)), HF.out⟩
  simp [joinBy, wordsOf, tailsOf, wCrash]
set_option maxHeartbeats 3200000 in
set_option maxRecDepth 100000 in
theorem wordsLine_5 (i : Int) (hg : goodA ⟨5, i, 0, Fa0, []⟩ = true) (A : Option Addr) (len c : Nat) (w : World) (hA : U8At w A []) (hn : ([] : List UInt8).length = len) (hP : P10 w) (h0 : 0 ≤ i) (h1 : i ≤ 63) :
    Calls Tryd.prog 8 #[.agg (Ac.cells ⟨5, i, 0, Fa0, []⟩ A len c).toArray] w fun e w' => e = .returned (.string ⟨(lineL ⟨5, i, 0, Fa0, []⟩).toArray⟩) ∧ Below w.heap.size w w' := by
  have hb1 : Below w.heap.size w (w.alloc (.cells (Ac.cells ⟨5, i, 0, Fa0, []⟩ A len c).toArray 29)) := (Below.refl _ _).alloc (Nat.le_refl _) _
  have C1 := scriptGoodV ⟨5, i, 0, Fa0, []⟩ A len c true hg _ (hA.keep hb1) hn
  have HX := Lib.hid (And.intro hP (And.intro hb1 (And.intro (boxAt_made w (Ac.cells ⟨5, i, 0, Fa0, []⟩ A len c) 29) hA)))
  have HL := Lib.hid (lineL_good hg)
  unfold Ac.cells Fa0 at C1
  have C1 := Lib.hid C1
  clear hP hb1 hA hg
  unfold Ac.cells Fa0
  go_enter Tryd.func8, Tryd.ntmps8
  go_wp2_with fail
  refine C1.out.mono ?_
  rintro e w1 ⟨rfl, hq⟩
  have hbx := HX.out.2.2.1.keep hq
  have hb2 := HX.out.2.1.trans (hq.mono HX.out.2.1.size)
  have r0 := hbx 0 _ rfl
  have r1 := hbx 1 _ rfl
  have r2 := hbx 2 _ rfl
  have r3 := hbx 3 _ rfl
  have r4 := hbx 4 _ rfl
  have r5 := hbx 5 _ rfl
  have r6 := hbx 6 _ rfl
  have r7 := hbx 7 _ rfl
  have r8 := hbx 8 _ rfl
  have HB := Lib.hid (And.intro hb2 (hbx))
  clear hq hbx hb2
  go_wp2_with fail
  refine (wordsJoin [114, 101, 115, 116, 97, 114, 116] [i] (some ⟨w1.heap.size, 0, none⟩) 1 1 rfl (by decide) (by decide) ?hI _ ?hA ((HX.out.1.below HB.out.1).below ?hB)).mono ?_
  case hI => intro z hz; simp at hz; omega
  case hA => exact RowAt.made w1 (intV [i]) _
  case hB => exact (Below.refl _ _).alloc (Nat.le_refl _) _
  rintro e w2 ⟨rfl, hq⟩
  have HF := Lib.hid ((HB.out.1.alloc HB.out.1.size _).trans (hq.mono (by have := HB.out.1.size; simp; omega)))
  clear hq
  go_wp2
  go_ret
  refine ⟨ret_str (Eq.trans ?_ (congrArg (fun z : List UInt8 => (⟨z.toArray⟩ : ByteArray)) HL.out.symm)), HF.out⟩
  simp [joinBy, wordsOf, tailsOf, wRestart]
set_option maxHeartbeats 3200000 in
set_option maxRecDepth 100000 in
theorem wordsLine_7 (i : Int) (hg : goodA ⟨7, i, 0, Fa0, []⟩ = true) (A : Option Addr) (len c : Nat) (w : World) (hA : U8At w A []) (hn : ([] : List UInt8).length = len) (hP : P10 w) (h0 : 0 ≤ i) (h1 : i ≤ 63) :
    Calls Tryd.prog 8 #[.agg (Ac.cells ⟨7, i, 0, Fa0, []⟩ A len c).toArray] w fun e w' => e = .returned (.string ⟨(lineL ⟨7, i, 0, Fa0, []⟩).toArray⟩) ∧ Below w.heap.size w w' := by
  have hb1 : Below w.heap.size w (w.alloc (.cells (Ac.cells ⟨7, i, 0, Fa0, []⟩ A len c).toArray 29)) := (Below.refl _ _).alloc (Nat.le_refl _) _
  have C1 := scriptGoodV ⟨7, i, 0, Fa0, []⟩ A len c true hg _ (hA.keep hb1) hn
  have HX := Lib.hid (And.intro hP (And.intro hb1 (And.intro (boxAt_made w (Ac.cells ⟨7, i, 0, Fa0, []⟩ A len c) 29) hA)))
  have HL := Lib.hid (lineL_good hg)
  unfold Ac.cells Fa0 at C1
  have C1 := Lib.hid C1
  clear hP hb1 hA hg
  unfold Ac.cells Fa0
  go_enter Tryd.func8, Tryd.ntmps8
  go_wp2_with fail
  refine C1.out.mono ?_
  rintro e w1 ⟨rfl, hq⟩
  have hbx := HX.out.2.2.1.keep hq
  have hb2 := HX.out.2.1.trans (hq.mono HX.out.2.1.size)
  have r0 := hbx 0 _ rfl
  have r1 := hbx 1 _ rfl
  have r2 := hbx 2 _ rfl
  have r3 := hbx 3 _ rfl
  have r4 := hbx 4 _ rfl
  have r5 := hbx 5 _ rfl
  have r6 := hbx 6 _ rfl
  have r7 := hbx 7 _ rfl
  have r8 := hbx 8 _ rfl
  have HB := Lib.hid (And.intro hb2 (hbx))
  clear hq hbx hb2
  go_wp2_with fail
  refine (wordsJoin [106, 111, 105, 110] [i] (some ⟨w1.heap.size, 0, none⟩) 1 1 rfl (by decide) (by decide) ?hI _ ?hA ((HX.out.1.below HB.out.1).below ?hB)).mono ?_
  case hI => intro z hz; simp at hz; omega
  case hA => exact RowAt.made w1 (intV [i]) _
  case hB => exact (Below.refl _ _).alloc (Nat.le_refl _) _
  rintro e w2 ⟨rfl, hq⟩
  have HF := Lib.hid ((HB.out.1.alloc HB.out.1.size _).trans (hq.mono (by have := HB.out.1.size; simp; omega)))
  clear hq
  go_wp2
  go_ret
  refine ⟨ret_str (Eq.trans ?_ (congrArg (fun z : List UInt8 => (⟨z.toArray⟩ : ByteArray)) HL.out.symm)), HF.out⟩
  simp [joinBy, wordsOf, tailsOf, wJoin]
set_option maxHeartbeats 3200000 in
set_option maxRecDepth 100000 in
theorem wordsLine_8 (i : Int) (hg : goodA ⟨8, i, 0, Fa0, []⟩ = true) (A : Option Addr) (len c : Nat) (w : World) (hA : U8At w A []) (hn : ([] : List UInt8).length = len) (hP : P10 w) (h0 : 0 ≤ i) (h1 : i ≤ 63) :
    Calls Tryd.prog 8 #[.agg (Ac.cells ⟨8, i, 0, Fa0, []⟩ A len c).toArray] w fun e w' => e = .returned (.string ⟨(lineL ⟨8, i, 0, Fa0, []⟩).toArray⟩) ∧ Below w.heap.size w w' := by
  have hb1 : Below w.heap.size w (w.alloc (.cells (Ac.cells ⟨8, i, 0, Fa0, []⟩ A len c).toArray 29)) := (Below.refl _ _).alloc (Nat.le_refl _) _
  have C1 := scriptGoodV ⟨8, i, 0, Fa0, []⟩ A len c true hg _ (hA.keep hb1) hn
  have HX := Lib.hid (And.intro hP (And.intro hb1 (And.intro (boxAt_made w (Ac.cells ⟨8, i, 0, Fa0, []⟩ A len c) 29) hA)))
  have HL := Lib.hid (lineL_good hg)
  unfold Ac.cells Fa0 at C1
  have C1 := Lib.hid C1
  clear hP hb1 hA hg
  unfold Ac.cells Fa0
  go_enter Tryd.func8, Tryd.ntmps8
  go_wp2_with fail
  refine C1.out.mono ?_
  rintro e w1 ⟨rfl, hq⟩
  have hbx := HX.out.2.2.1.keep hq
  have hb2 := HX.out.2.1.trans (hq.mono HX.out.2.1.size)
  have r0 := hbx 0 _ rfl
  have r1 := hbx 1 _ rfl
  have r2 := hbx 2 _ rfl
  have r3 := hbx 3 _ rfl
  have r4 := hbx 4 _ rfl
  have r5 := hbx 5 _ rfl
  have r6 := hbx 6 _ rfl
  have r7 := hbx 7 _ rfl
  have r8 := hbx 8 _ rfl
  have HB := Lib.hid (And.intro hb2 (hbx))
  clear hq hbx hb2
  go_wp2_with fail
  refine (wordsJoin [108, 101, 97, 118, 101] [i] (some ⟨w1.heap.size, 0, none⟩) 1 1 rfl (by decide) (by decide) ?hI _ ?hA ((HX.out.1.below HB.out.1).below ?hB)).mono ?_
  case hI => intro z hz; simp at hz; omega
  case hA => exact RowAt.made w1 (intV [i]) _
  case hB => exact (Below.refl _ _).alloc (Nat.le_refl _) _
  rintro e w2 ⟨rfl, hq⟩
  have HF := Lib.hid ((HB.out.1.alloc HB.out.1.size _).trans (hq.mono (by have := HB.out.1.size; simp; omega)))
  clear hq
  go_wp2
  go_ret
  refine ⟨ret_str (Eq.trans ?_ (congrArg (fun z : List UInt8 => (⟨z.toArray⟩ : ByteArray)) HL.out.symm)), HF.out⟩
  simp [joinBy, wordsOf, tailsOf, wLeave]
set_option maxHeartbeats 3200000 in
set_option maxRecDepth 100000 in
theorem wordsLine_3 (fk fd fa : Int) (fp fb : Nat) (hg : goodA ⟨3, 0, 0, ⟨fk, fd, fa, fp, fb⟩, []⟩ = true) (A : Option Addr) (len c : Nat) (w : World) (hA : U8At w A []) (hn : ([] : List UInt8).length = len) (hP : P10 w) (hf : goodF ⟨fk, fd, fa, fp, fb⟩ = true) (hp : fp < 4294967296) (hb : fb < 4294967296) :
    Calls Tryd.prog 8 #[.agg (Ac.cells ⟨3, 0, 0, ⟨fk, fd, fa, fp, fb⟩, []⟩ A len c).toArray] w fun e w' => e = .returned (.string ⟨(lineL ⟨3, 0, 0, ⟨fk, fd, fa, fp, fb⟩, []⟩).toArray⟩) ∧ Below w.heap.size w w' := by
  have hb1 : Below w.heap.size w (w.alloc (.cells (Ac.cells ⟨3, 0, 0, ⟨fk, fd, fa, fp, fb⟩, []⟩ A len c).toArray 29)) := (Below.refl _ _).alloc (Nat.le_refl _) _
  have C1 := scriptGoodV ⟨3, 0, 0, ⟨fk, fd, fa, fp, fb⟩, []⟩ A len c true hg _ (hA.keep hb1) hn
  have HX := Lib.hid (And.intro hP (And.intro hb1 (And.intro (boxAt_made w (Ac.cells ⟨3, 0, 0, ⟨fk, fd, fa, fp, fb⟩, []⟩ A len c) 29) hA)))
  have HL := Lib.hid (lineL_good hg)
  unfold Ac.cells at C1
  have C1 := Lib.hid C1
  clear hP hb1 hA hg
  unfold Ac.cells 
  go_enter Tryd.func8, Tryd.ntmps8
  go_wp2_with fail
  refine C1.out.mono ?_
  rintro e w1 ⟨rfl, hq⟩
  have hbx := HX.out.2.2.1.keep hq
  have hb2 := HX.out.2.1.trans (hq.mono HX.out.2.1.size)
  have r0 := hbx 0 _ rfl
  have r1 := hbx 1 _ rfl
  have r2 := hbx 2 _ rfl
  have r3 := hbx 3 _ rfl
  have r4 := hbx 4 _ rfl
  have r5 := hbx 5 _ rfl
  have r6 := hbx 6 _ rfl
  have r7 := hbx 7 _ rfl
  have r8 := hbx 8 _ rfl
  have HB := Lib.hid (And.intro hb2 (hbx))
  clear hq hbx hb2
  have C2 := wordsFateLine ⟨fk, fd, fa, fp, fb⟩ hf hp hb w1 (HX.out.1.below HB.out.1)
  unfold Fa.cells at C2
  have C2 := Lib.hid C2
  clear hf hp hb
  go_wp2_with fail
  refine C2.out.mono ?_
  rintro e w2 ⟨rfl, hq⟩
  have HF := Lib.hid (HB.out.1.trans (hq.mono HB.out.1.size))
  clear hq
  go_wp2
  go_ret
  exact ⟨ret_str (by rw [HL.out]), HF.out⟩
set_option maxHeartbeats 3200000 in
set_option maxRecDepth 100000 in
theorem wordsLine_6e (i : Int) (hg : goodA ⟨6, i, 0, Fa0, []⟩ = true) (A : Option Addr) (len c : Nat) (w : World) (hA : U8At w A []) (hn : ([] : List UInt8).length = len) (hP : P10 w) (h0 : 0 ≤ i) (h1 : i ≤ 63) :
    Calls Tryd.prog 8 #[.agg (Ac.cells ⟨6, i, 0, Fa0, []⟩ A len c).toArray] w fun e w' => e = .returned (.string ⟨(lineL ⟨6, i, 0, Fa0, []⟩).toArray⟩) ∧ Below w.heap.size w w' := by
  have hb1 : Below w.heap.size w (w.alloc (.cells (Ac.cells ⟨6, i, 0, Fa0, []⟩ A len c).toArray 29)) := (Below.refl _ _).alloc (Nat.le_refl _) _
  have C1 := scriptGoodV ⟨6, i, 0, Fa0, []⟩ A len c true hg _ (hA.keep hb1) hn
  have HX := Lib.hid (And.intro hP (And.intro hb1 (And.intro (boxAt_made w (Ac.cells ⟨6, i, 0, Fa0, []⟩ A len c) 29) hA)))
  have HL := Lib.hid (lineL_good hg)
  unfold Ac.cells Fa0 at C1
  have C1 := Lib.hid C1
  clear hP hb1 hA hg
  unfold Ac.cells Fa0
  obtain rfl : 0 = len := hn
  go_enter Tryd.func8, Tryd.ntmps8
  go_wp2_with fail
  refine C1.out.mono ?_
  rintro e w1 ⟨rfl, hq⟩
  have hbx := HX.out.2.2.1.keep hq
  have hb2 := HX.out.2.1.trans (hq.mono HX.out.2.1.size)
  have r0 := hbx 0 _ rfl
  have r1 := hbx 1 _ rfl
  have r2 := hbx 2 _ rfl
  have r3 := hbx 3 _ rfl
  have r4 := hbx 4 _ rfl
  have r5 := hbx 5 _ rfl
  have r6 := hbx 6 _ rfl
  have r7 := hbx 7 _ rfl
  have r8 := hbx 8 _ rfl
  have HB := Lib.hid (And.intro hb2 (hbx))
  clear hq hbx hb2
  go_wp2_with fail
  refine (wordsJoin [115, 101, 110, 100] [i] (some ⟨w1.heap.size, 0, none⟩) 1 1 rfl (by decide) (by decide) ?hI _ ?hA ((HX.out.1.below HB.out.1).below ?hB)).mono ?_
  case hI => intro z hz; simp at hz; omega
  case hA => exact RowAt.made w1 (intV [i]) _
  case hB => exact (Below.refl _ _).alloc (Nat.le_refl _) _
  rintro e w2 ⟨rfl, hq⟩
  have HF := Lib.hid ((HB.out.1.alloc HB.out.1.size _).trans (hq.mono (by have := HB.out.1.size; simp; omega)))
  clear hq
  go_wp2
  go_ret
  refine ⟨ret_str (Eq.trans ?_ (congrArg (fun z : List UInt8 => (⟨z.toArray⟩ : ByteArray)) HL.out.symm)), HF.out⟩
  simp [joinBy, wordsOf, tailsOf, wSend]
set_option maxHeartbeats 3200000 in
set_option maxRecDepth 100000 in
theorem wordsLine_6 (i : Int) (b : List UInt8) (hg : goodA ⟨6, i, 0, Fa0, b⟩ = true) (A : Option Addr) (len c : Nat) (w : World) (hA : U8At w A b) (hn : (b : List UInt8).length = len) (hP : P10 w) (h0 : 0 ≤ i) (h1 : i ≤ 63) (hne : b ≠ []) (hb1024 : len ≤ 1024) :
    Calls Tryd.prog 8 #[.agg (Ac.cells ⟨6, i, 0, Fa0, b⟩ A len c).toArray] w fun e w' => e = .returned (.string ⟨(lineL ⟨6, i, 0, Fa0, b⟩).toArray⟩) ∧ Below w.heap.size w w' := by
  have hb1 : Below w.heap.size w (w.alloc (.cells (Ac.cells ⟨6, i, 0, Fa0, b⟩ A len c).toArray 29)) := (Below.refl _ _).alloc (Nat.le_refl _) _
  have C1 := scriptGoodV ⟨6, i, 0, Fa0, b⟩ A len c true hg _ (hA.keep hb1) hn
  have HX := Lib.hid (And.intro hP (And.intro hb1 (And.intro (boxAt_made w (Ac.cells ⟨6, i, 0, Fa0, b⟩ A len c) 29) hA)))
  have HL := Lib.hid (lineL_good hg)
  unfold Ac.cells Fa0 at C1
  have C1 := Lib.hid C1
  clear hP hb1 hA hg
  unfold Ac.cells Fa0
  have hlen : (len : Int) ≠ 0 := by intro h; apply hne; apply List.eq_nil_of_length_eq_zero; omega
  go_enter Tryd.func8, Tryd.ntmps8
  go_wp2_with fail
  refine C1.out.mono ?_
  rintro e w1 ⟨rfl, hq⟩
  have hbx := HX.out.2.2.1.keep hq
  have hb2 := HX.out.2.1.trans (hq.mono HX.out.2.1.size)
  have r0 := hbx 0 _ rfl
  have r1 := hbx 1 _ rfl
  have r2 := hbx 2 _ rfl
  have r3 := hbx 3 _ rfl
  have r4 := hbx 4 _ rfl
  have r5 := hbx 5 _ rfl
  have r6 := hbx 6 _ rfl
  have r7 := hbx 7 _ rfl
  have r8 := hbx 8 _ rfl
  have HB := Lib.hid (And.intro hb2 (hbx))
  clear hq hbx hb2
  have hU := (HX.out.2.2.2.keep HB.out.1)
  have HU := Lib.hid hU
  clear hU
  have hlen2 : ((len : Int) == 0) = false := by rw [beq_eq_false_iff_ne]; exact hlen
  obtain ⟨p, hp⟩ : ∃ p, [115, 101, 110, 100] ++ tailsOf [i] = p := ⟨_, rfl⟩
  obtain ⟨q, hq⟩ : ∃ q, hexOf b = q := ⟨_, rfl⟩
  have hl1 : p.length ≤ 30 := by
    have := tailsOf_len [i] (by intro z hz; simp at hz; omega)
    rw [← hp]
    simp only [List.length_append, List.length_cons, List.length_nil] at this ⊢; omega
  have hl2 : q.length ≤ 2048 := by rw [← hq, hexOf_len]; omega
  have C3 := fun (W : World) (hW : Below w1.heap.size w1 W) => wordsBase16 A c b hn (by omega) W (HU.out.keep hW)
  have C4 := fun (W : World) (hW : Below w1.heap.size w1 W) (a : Addr) (hR : RowAt W (some a) (intV [i])) => wordsJoin [115, 101, 110, 100] [i] (some a) 1 1 rfl (by decide) (by decide) (by intro z hz; simp at hz; omega) W hR ((HX.out.1.below HB.out.1).below hW)
  rw [hq] at C3
  rw [hp] at C4
  have C3 := Lib.hid C3
  have C4 := Lib.hid C4
  have HPQ := Lib.hid (And.intro hp (And.intro hq hne))
  clear hp hq
  have HST : Hid (∀ W, Below w1.heap.size w1 W → Below w1.heap.size w1 W ∧ W.cell? ⟨w.heap.size, 8, none⟩ = some (.slice A len c)) := fun W hW => ⟨hW, (hW.cell (p := ⟨w.heap.size, 8, none⟩) (World.block_lt_of_cell? _ _ r8)).trans r8⟩
  have HRM : Hid (∀ W : World, RowAt (W.alloc (.cells #[.int .i64 i] 2)) (some ⟨W.heap.size, 0, none⟩) (intV [i])) := fun W : World => RowAt.made W (intV [i]) 2
  have HRD : Hid (RowAt (w1.alloc (.cells #[.int .i64 i] 2)).drew (some ⟨w1.heap.size, 0, none⟩) (intV [i])) := HRM.out w1
  clear hne hlen
  go_wp2_with fail
  go_region_held (fun W => Below w1.heap.size w1 W ∧ W.cell? ⟨w.heap.size, 8, none⟩ = some (.slice A len c))
    (first
      | exact HST.out _ (Below.refl _ _).drew
      | exact HST.out _ ((Below.refl _ _).alloc (Nat.le_refl _) _).drew
      | (go_split_ands; refine ⟨?_, ?_⟩ <;> assumption)
      | (go_split_ands; exact HST.out _ (Below.alloc (by assumption) (Below.size (by assumption)) _))
      | (go_split_ands; refine HST.out _ (Below.trans ?_ (Below.mono hb5 ?_)) <;> first | assumption | exact Below.size (by assumption))
      | (go_split_ands; refine HST.out _ (Below.trans ?_ (Below.mono hb6 ?_)) <;> first | assumption | exact Below.size (by assumption)))
    (first
      | (go_at_call 20; (with_reducible refine (C3.out _ (by go_split_ands; assumption)).mono ?_); rintro e w5 ⟨rfl, hb5⟩)
      | (go_at_call 18; (with_reducible refine (C4.out _ (by go_split_ands; assumption) _ HRD.out).mono ?_); rintro e w6 ⟨rfl, hb6⟩)
      | (go_at_call 18; (with_reducible refine (C4.out _ (by go_split_ands; assumption) _ (HRD.out.keep hb5)).mono ?_); rintro e w6 ⟨rfl, hb6⟩)
      | (go_at_call 18; (with_reducible refine (C4.out _ (by go_split_ands; assumption) _ (HRM.out w5)).mono ?_); rintro e w6 ⟨rfl, hb6⟩))
  all_goals
    have hbl := HB.out.1.trans (Below.mono (by go_split_ands; assumption) HB.out.1.size)
    go_wp2
    go_ret
    refine ⟨ret_str (Eq.trans ?_ (congrArg (fun z : List UInt8 => (⟨z.toArray⟩ : ByteArray)) HL.out.symm)), hbl⟩
    rw [← HPQ.out.1, ← HPQ.out.2.1]
    apply ByteArray.ext
    simp [joinBy, wordsOf, tailsOf, wSend, HPQ.out.2.2]
end Go.Proofs.YtndpdonlombodaaDoor
