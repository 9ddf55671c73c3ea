/- The small cluster of any numbers: the law. -/
import Derived.Test.YtpbfacabafkheaaDoorCnV
import Derived.Test.YtpbfacabafkheaaDoorCnS
import Derived.Test.YtpbfacabafkheaaDoorCnJ
namespace Go.Proofs.YtpbfacabafkheaaDoor
open Go.RowKit Law
set_option linter.unusedVariables false
set_option linter.unusedSimpArgs false
set_option maxRecDepth 100000
attribute [local go_sem] Oper.semAt_some

def zeroC : Cn := ⟨0, 0, 0, 0, 0, 0, 0, 0, 0, 0, 0, 0, 0, 0⟩
theorem zc_fits : FitsC zeroC := by
  intro x hx
  unfold numsC zeroC at hx
  simp only [List.mem_cons, List.not_mem_nil, or_false] at hx
  omega
theorem small_fits {n f a b : Int} (hn : -9223372036854775808 ≤ n ∧ n ≤ 9223372036854775807) (hf : -9223372036854775808 ≤ f ∧ f ≤ 9223372036854775807) (ha : -9223372036854775808 ≤ a ∧ a ≤ 9223372036854775807) (hb : -9223372036854775808 ≤ b ∧ b ≤ 9223372036854775807) : FitsC (smallC n f a b) := by
  intro x hx
  unfold numsC smallC at hx
  simp only [List.mem_cons, List.not_mem_nil, or_false] at hx
  omega
set_option maxHeartbeats 6400000 in
theorem walkSmall0 (n f a b : Int) (hn64 : -9223372036854775808 ≤ n ∧ n ≤ 9223372036854775807) (hf64 : -9223372036854775808 ≤ f ∧ f ≤ 9223372036854775807) (ha64 : -9223372036854775808 ≤ a ∧ a ≤ 9223372036854775807) (hb64 : -9223372036854775808 ≤ b ∧ b ≤ 9223372036854775807) (hn : n < 2 ∨ n > 8) (w : World) (hT : T64 w) :
    Calls Tryd.prog 4 #[.int .i64 n, .int .i64 f, .agg #[.int .i64 a, .int .i64 b]] w fun e w' => e = .returned (.bool true) ∧ Below w.heap.size w w' := by
  have HT := Lib.hid hT
  have CW := Lib.hid (fun (W : World) (hT : T64 W) => works48 W hT)
  have CC := Lib.hid (fun (W : World) (hT : T64 W) => (cSmall n f a b W hT).mono (fun e W' h => (⟨h.2.1 hn, h.1⟩ : e = .returned (.tuple #[.agg #[.int .i64 0, .slice none 0 0, .int .i64 0, .int .i64 0, .int .i64 0, .int .i64 0, .int .i64 0, .int .i64 0, .int .i64 0, .int .i64 0, .int .i64 0, .int .i64 0, .int .i64 0, .int .i64 0, .int .i64 0], .int .i64 1]) ∧ Below W.heap.size W W')))
  have CD := Lib.hid (fun (W : World) => (rSmall n f a b W).mono (fun e W' h => (⟨h.2.1 hn, h.1⟩ : e = .returned (.tuple #[.agg #[.int .i64 0, .slice none 0 0, .int .i64 0, .int .i64 0, .int .i64 0, .int .i64 0, .int .i64 0, .int .i64 0, .int .i64 0, .int .i64 0, .int .i64 0, .int .i64 0, .int .i64 0, .int .i64 0, .int .i64 0], .int .i64 1]) ∧ Below W.heap.size W W')))
  have CS := Lib.hid (fun (W : World) => rSame (n := 0) (m := 0) zeroC zeroC zc_fits zc_fits none none 0 0 [] [] rfl rfl (by simp) (by simp) (by omega) (by omega) W (fun k e he => by simp at he) (fun k e he => by simp at he))
  rw [show sameB zeroC zeroC [] [] = true by decide] at CS
  have k0 : ∀ j v, ([.int .i64 a, .int .i64 b] : List Value)[j]? = some v → (w.alloc (.cells #[.int .i64 a, .int .i64 b] 31)).cell? ⟨w.heap.size, j, none⟩ = some v := (boxF_made w [.int .i64 a, .int .i64 b] 31).1
  have k1 := (Below.refl w.heap.size w).alloc (Nat.le_refl _) (.cells #[.int .i64 a, .int .i64 b] 31)
  have kb := boxF_made w [.int .i64 a, .int .i64 b] 31
  obtain ⟨w1, hw1⟩ : ∃ w1, w.alloc (.cells #[.int .i64 a, .int .i64 b] 31) = w1 := ⟨_, rfl⟩
  rw [show w.alloc (.cells [.int .i64 a, .int .i64 b].toArray 31) = w1 from hw1] at kb
  rw [hw1] at k1
  clear k0
  have HB1 := Lib.hid k1
  have HKB := Lib.hid kb
  have a0 := kb.1 0 _ rfl
  have a1 := kb.1 1 _ rfl
  clear k1 kb
  go_enter Tryd.func4, Tryd.ntmps4
  go_wp2_with fail
  refine (CC.out w1 (HT.out.below HB1.out)).mono ?_
  clear hw1 a0 a1
  rintro e w2 ⟨rfl, hb2⟩
  obtain ⟨v3, hv3⟩ : ∃ v3, w2.alloc (.cells #[.int .i64 0, .slice none 0 0, .int .i64 0, .int .i64 0, .int .i64 0, .int .i64 0, .int .i64 0, .int .i64 0, .int .i64 0, .int .i64 0, .int .i64 0, .int .i64 0, .int .i64 0, .int .i64 0, .int .i64 0] 24) = v3 := ⟨_, rfl⟩
  have y3 := boxF_made w2 [.int .i64 0, .slice none 0 0, .int .i64 0, .int .i64 0, .int .i64 0, .int .i64 0, .int .i64 0, .int .i64 0, .int .i64 0, .int .i64 0, .int .i64 0, .int .i64 0, .int .i64 0, .int .i64 0, .int .i64 0] 24
  rw [show w2.alloc (.cells [.int .i64 0, .slice none 0 0, .int .i64 0, .int .i64 0, .int .i64 0, .int .i64 0, .int .i64 0, .int .i64 0, .int .i64 0, .int .i64 0, .int .i64 0, .int .i64 0, .int .i64 0, .int .i64 0, .int .i64 0].toArray 24) = v3 from hv3] at y3
  have x3 : Below w2.heap.size w2 v3 := by rw [← hv3]; exact (Below.refl _ _).alloc (Nat.le_refl _) _
  have c3 := storeN_box w2.heap.size [.int .i64 0, .slice none 0 0, .int .i64 0, .int .i64 0, .int .i64 0, .int .i64 0, .int .i64 0, .int .i64 0, .int .i64 0, .int .i64 0, .int .i64 0, .int .i64 0, .int .i64 0, .int .i64 0, .int .i64 0] v3 [] [.int .i64 0, .slice none 0 0, .int .i64 0, .int .i64 0, .int .i64 0, .int .i64 0, .int .i64 0, .int .i64 0, .int .i64 0, .int .i64 0, .int .i64 0, .int .i64 0, .int .i64 0, .int .i64 0, .int .i64 0] rfl y3
  have b3 := storeN_below (N := w2.heap.size) w2.heap.size (Nat.le_refl _) [.int .i64 0, .slice none 0 0, .int .i64 0, .int .i64 0, .int .i64 0, .int .i64 0, .int .i64 0, .int .i64 0, .int .i64 0, .int .i64 0, .int .i64 0, .int .i64 0, .int .i64 0, .int .i64 0, .int .i64 0] w2 v3 0 x3
  obtain ⟨w3, hw3⟩ : ∃ w3, storeN w2.heap.size v3 [.int .i64 0, .slice none 0 0, .int .i64 0, .int .i64 0, .int .i64 0, .int .i64 0, .int .i64 0, .int .i64 0, .int .i64 0, .int .i64 0, .int .i64 0, .int .i64 0, .int .i64 0, .int .i64 0, .int .i64 0] 0 = w3 := ⟨_, rfl⟩
  rw [show ([] : List Value).length = 0 from rfl, List.nil_append, hw3] at c3
  rw [hw3] at b3
  simp only [storeN, Nat.reduceAdd] at hw3
  have q0_ := y3.1 0 _ rfl
  have p0_ := y3.2 0 (by simp)
  have q1_ := y3.1 1 _ rfl
  have p1_ := y3.2 1 (by simp)
  have q2_ := y3.1 2 _ rfl
  have p2_ := y3.2 2 (by simp)
  have q3_ := y3.1 3 _ rfl
  have p3_ := y3.2 3 (by simp)
  have q4_ := y3.1 4 _ rfl
  have p4_ := y3.2 4 (by simp)
  have q5_ := y3.1 5 _ rfl
  have p5_ := y3.2 5 (by simp)
  have q6_ := y3.1 6 _ rfl
  have p6_ := y3.2 6 (by simp)
  have q7_ := y3.1 7 _ rfl
  have p7_ := y3.2 7 (by simp)
  have q8_ := y3.1 8 _ rfl
  have p8_ := y3.2 8 (by simp)
  have q9_ := y3.1 9 _ rfl
  have p9_ := y3.2 9 (by simp)
  have q10_ := y3.1 10 _ rfl
  have p10_ := y3.2 10 (by simp)
  have q11_ := y3.1 11 _ rfl
  have p11_ := y3.2 11 (by simp)
  have q12_ := y3.1 12 _ rfl
  have p12_ := y3.2 12 (by simp)
  have q13_ := y3.1 13 _ rfl
  have p13_ := y3.2 13 (by simp)
  have q14_ := y3.1 14 _ rfl
  have p14_ := y3.2 14 (by simp)
  clear y3 x3
  have hb12 := hb2.trans (b3.mono hb2.size)
  have kk := HKB.out.keep (hb2.trans (b3.mono hb2.size))
  have kk2 := HKB.out.keep hb2
  have a0 := kk.1 0 _ rfl
  have a1 := kk.1 1 _ rfl
  have HC3 := Lib.hid c3
  have HB3 := Lib.hid (HB1.out.trans (hb12.mono HB1.out.size))
  clear c3 b3 hb12 kk hb2 kk2
  go_wp2_with fail
  refine (CD.out w3).mono ?_
  clear hv3 hw3 a0 a1 q0_ p0_ q1_ p1_ q2_ p2_ q3_ p3_ q4_ p4_ q5_ p5_ q6_ p6_ q7_ p7_ q8_ p8_ q9_ p9_ q10_ p10_ q11_ p11_ q12_ p12_ q13_ p13_ q14_ p14_
  rintro e w4 ⟨rfl, hb4⟩
  obtain ⟨v5, hv5⟩ : ∃ v5, w4.alloc (.cells #[.int .i64 0, .slice none 0 0, .int .i64 0, .int .i64 0, .int .i64 0, .int .i64 0, .int .i64 0, .int .i64 0, .int .i64 0, .int .i64 0, .int .i64 0, .int .i64 0, .int .i64 0, .int .i64 0, .int .i64 0] 24) = v5 := ⟨_, rfl⟩
  have y3 := boxF_made w4 [.int .i64 0, .slice none 0 0, .int .i64 0, .int .i64 0, .int .i64 0, .int .i64 0, .int .i64 0, .int .i64 0, .int .i64 0, .int .i64 0, .int .i64 0, .int .i64 0, .int .i64 0, .int .i64 0, .int .i64 0] 24
  rw [show w4.alloc (.cells [.int .i64 0, .slice none 0 0, .int .i64 0, .int .i64 0, .int .i64 0, .int .i64 0, .int .i64 0, .int .i64 0, .int .i64 0, .int .i64 0, .int .i64 0, .int .i64 0, .int .i64 0, .int .i64 0, .int .i64 0].toArray 24) = v5 from hv5] at y3
  have x3 : Below w4.heap.size w4 v5 := by rw [← hv5]; exact (Below.refl _ _).alloc (Nat.le_refl _) _
  have c5 := storeN_box w4.heap.size [.int .i64 0, .slice none 0 0, .int .i64 0, .int .i64 0, .int .i64 0, .int .i64 0, .int .i64 0, .int .i64 0, .int .i64 0, .int .i64 0, .int .i64 0, .int .i64 0, .int .i64 0, .int .i64 0, .int .i64 0] v5 [] [.int .i64 0, .slice none 0 0, .int .i64 0, .int .i64 0, .int .i64 0, .int .i64 0, .int .i64 0, .int .i64 0, .int .i64 0, .int .i64 0, .int .i64 0, .int .i64 0, .int .i64 0, .int .i64 0, .int .i64 0] rfl y3
  have b5 := storeN_below (N := w4.heap.size) w4.heap.size (Nat.le_refl _) [.int .i64 0, .slice none 0 0, .int .i64 0, .int .i64 0, .int .i64 0, .int .i64 0, .int .i64 0, .int .i64 0, .int .i64 0, .int .i64 0, .int .i64 0, .int .i64 0, .int .i64 0, .int .i64 0, .int .i64 0] w4 v5 0 x3
  obtain ⟨w5, hw5⟩ : ∃ w5, storeN w4.heap.size v5 [.int .i64 0, .slice none 0 0, .int .i64 0, .int .i64 0, .int .i64 0, .int .i64 0, .int .i64 0, .int .i64 0, .int .i64 0, .int .i64 0, .int .i64 0, .int .i64 0, .int .i64 0, .int .i64 0, .int .i64 0] 0 = w5 := ⟨_, rfl⟩
  rw [show ([] : List Value).length = 0 from rfl, List.nil_append, hw5] at c5
  rw [hw5] at b5
  simp only [storeN, Nat.reduceAdd] at hw5
  have q0_ := y3.1 0 _ rfl
  have p0_ := y3.2 0 (by simp)
  have q1_ := y3.1 1 _ rfl
  have p1_ := y3.2 1 (by simp)
  have q2_ := y3.1 2 _ rfl
  have p2_ := y3.2 2 (by simp)
  have q3_ := y3.1 3 _ rfl
  have p3_ := y3.2 3 (by simp)
  have q4_ := y3.1 4 _ rfl
  have p4_ := y3.2 4 (by simp)
  have q5_ := y3.1 5 _ rfl
  have p5_ := y3.2 5 (by simp)
  have q6_ := y3.1 6 _ rfl
  have p6_ := y3.2 6 (by simp)
  have q7_ := y3.1 7 _ rfl
  have p7_ := y3.2 7 (by simp)
  have q8_ := y3.1 8 _ rfl
  have p8_ := y3.2 8 (by simp)
  have q9_ := y3.1 9 _ rfl
  have p9_ := y3.2 9 (by simp)
  have q10_ := y3.1 10 _ rfl
  have p10_ := y3.2 10 (by simp)
  have q11_ := y3.1 11 _ rfl
  have p11_ := y3.2 11 (by simp)
  have q12_ := y3.1 12 _ rfl
  have p12_ := y3.2 12 (by simp)
  have q13_ := y3.1 13 _ rfl
  have p13_ := y3.2 13 (by simp)
  have q14_ := y3.1 14 _ rfl
  have p14_ := y3.2 14 (by simp)
  clear y3 x3
  have hb35 := hb4.trans (b5.mono hb4.size)
  have c35 := HC3.out.keep hb35
  have d0_ := c35.1 0 _ rfl
  have d1_ := c35.1 1 _ rfl
  have d2_ := c35.1 2 _ rfl
  have d3_ := c35.1 3 _ rfl
  have d4_ := c35.1 4 _ rfl
  have d5_ := c35.1 5 _ rfl
  have d6_ := c35.1 6 _ rfl
  have d7_ := c35.1 7 _ rfl
  have d8_ := c35.1 8 _ rfl
  have d9_ := c35.1 9 _ rfl
  have d10_ := c35.1 10 _ rfl
  have d11_ := c35.1 11 _ rfl
  have d12_ := c35.1 12 _ rfl
  have d13_ := c35.1 13 _ rfl
  have d14_ := c35.1 14 _ rfl
  have e0_ := c5.1 0 _ rfl
  have e1_ := c5.1 1 _ rfl
  have e2_ := c5.1 2 _ rfl
  have e3_ := c5.1 3 _ rfl
  have e4_ := c5.1 4 _ rfl
  have e5_ := c5.1 5 _ rfl
  have e6_ := c5.1 6 _ rfl
  have e7_ := c5.1 7 _ rfl
  have e8_ := c5.1 8 _ rfl
  have e9_ := c5.1 9 _ rfl
  have e10_ := c5.1 10 _ rfl
  have e11_ := c5.1 11 _ rfl
  have e12_ := c5.1 12 _ rfl
  have e13_ := c5.1 13 _ rfl
  have e14_ := c5.1 14 _ rfl
  have HB5 := Lib.hid (HB3.out.trans (hb35.mono HB3.out.size))
  clear c5 b5 hb4 hb35 c35
  go_wp2_with fail
  refine (CS.out w5).mono ?_
  clear hv5 hw5 d0_ d1_ d2_ d3_ d4_ d5_ d6_ d7_ d8_ d9_ d10_ d11_ d12_ d13_ d14_ e0_ e1_ e2_ e3_ e4_ e5_ e6_ e7_ e8_ e9_ e10_ e11_ e12_ e13_ e14_ q0_ p0_ q1_ p1_ q2_ p2_ q3_ p3_ q4_ p4_ q5_ p5_ q6_ p6_ q7_ p7_ q8_ p8_ q9_ p9_ q10_ p10_ q11_ p11_ q12_ p12_ q13_ p13_ q14_ p14_
  rintro e w6 ⟨rfl, hb6⟩
  have HB6 := Lib.hid (HB5.out.trans (hb6.mono HB5.out.size))
  clear hb6
  go_wp2_with fail
  refine (CW.out _ (HT.out.below HB6.out)).mono ?_
  rintro e w7 ⟨rfl, hb7⟩
  go_wp2
  go_ret
  exact ⟨rfl, HB6.out.trans (hb7.mono HB6.out.size)⟩
set_option maxHeartbeats 6400000 in
theorem walkSmall1 (n f a b : Int) (hn64 : -9223372036854775808 ≤ n ∧ n ≤ 9223372036854775807) (hf64 : -9223372036854775808 ≤ f ∧ f ≤ 9223372036854775807) (ha64 : -9223372036854775808 ≤ a ∧ a ≤ 9223372036854775807) (hb64 : -9223372036854775808 ≤ b ∧ b ≤ 9223372036854775807) (hn : ¬ (n < 2 ∨ n > 8)) (hF : faultN (sugC (smallC n f a b)) (fullL n.toNat) ≠ 0) (w : World) (hT : T64 w) :
    Calls Tryd.prog 4 #[.int .i64 n, .int .i64 f, .agg #[.int .i64 a, .int .i64 b]] w fun e w' => e = .returned (.bool true) ∧ Below w.heap.size w w' := by
  have HT := Lib.hid hT
  have CW := Lib.hid (fun (W : World) (hT : T64 W) => works48 W hT)
  have CC := Lib.hid (fun (W : World) (hT : T64 W) => (cSmall n f a b W hT).mono (fun e W' h => (⟨h.2.2.1 hn hF, h.1⟩ : e = .returned (.tuple #[.agg #[.int .i64 0, .slice none 0 0, .int .i64 0, .int .i64 0, .int .i64 0, .int .i64 0, .int .i64 0, .int .i64 0, .int .i64 0, .int .i64 0, .int .i64 0, .int .i64 0, .int .i64 0, .int .i64 0, .int .i64 0], .int .i64 17]) ∧ Below W.heap.size W W')))
  have CD := Lib.hid (fun (W : World) => (rSmall n f a b W).mono (fun e W' h => (⟨h.2.2.1 hn hF, h.1⟩ : e = .returned (.tuple #[.agg #[.int .i64 0, .slice none 0 0, .int .i64 0, .int .i64 0, .int .i64 0, .int .i64 0, .int .i64 0, .int .i64 0, .int .i64 0, .int .i64 0, .int .i64 0, .int .i64 0, .int .i64 0, .int .i64 0, .int .i64 0], .int .i64 17]) ∧ Below W.heap.size W W')))
  have CS := Lib.hid (fun (W : World) => rSame (n := 0) (m := 0) zeroC zeroC zc_fits zc_fits none none 0 0 [] [] rfl rfl (by simp) (by simp) (by omega) (by omega) W (fun k e he => by simp at he) (fun k e he => by simp at he))
  rw [show sameB zeroC zeroC [] [] = true by decide] at CS
  have k0 : ∀ j v, ([.int .i64 a, .int .i64 b] : List Value)[j]? = some v → (w.alloc (.cells #[.int .i64 a, .int .i64 b] 31)).cell? ⟨w.heap.size, j, none⟩ = some v := (boxF_made w [.int .i64 a, .int .i64 b] 31).1
  have k1 := (Below.refl w.heap.size w).alloc (Nat.le_refl _) (.cells #[.int .i64 a, .int .i64 b] 31)
  have kb := boxF_made w [.int .i64 a, .int .i64 b] 31
  obtain ⟨w1, hw1⟩ : ∃ w1, w.alloc (.cells #[.int .i64 a, .int .i64 b] 31) = w1 := ⟨_, rfl⟩
  rw [show w.alloc (.cells [.int .i64 a, .int .i64 b].toArray 31) = w1 from hw1] at kb
  rw [hw1] at k1
  clear k0
  have HB1 := Lib.hid k1
  have HKB := Lib.hid kb
  have a0 := kb.1 0 _ rfl
  have a1 := kb.1 1 _ rfl
  clear k1 kb
  go_enter Tryd.func4, Tryd.ntmps4
  go_wp2_with fail
  refine (CC.out w1 (HT.out.below HB1.out)).mono ?_
  clear hw1 a0 a1
  rintro e w2 ⟨rfl, hb2⟩
  obtain ⟨v3, hv3⟩ : ∃ v3, w2.alloc (.cells #[.int .i64 0, .slice none 0 0, .int .i64 0, .int .i64 0, .int .i64 0, .int .i64 0, .int .i64 0, .int .i64 0, .int .i64 0, .int .i64 0, .int .i64 0, .int .i64 0, .int .i64 0, .int .i64 0, .int .i64 0] 24) = v3 := ⟨_, rfl⟩
  have y3 := boxF_made w2 [.int .i64 0, .slice none 0 0, .int .i64 0, .int .i64 0, .int .i64 0, .int .i64 0, .int .i64 0, .int .i64 0, .int .i64 0, .int .i64 0, .int .i64 0, .int .i64 0, .int .i64 0, .int .i64 0, .int .i64 0] 24
  rw [show w2.alloc (.cells [.int .i64 0, .slice none 0 0, .int .i64 0, .int .i64 0, .int .i64 0, .int .i64 0, .int .i64 0, .int .i64 0, .int .i64 0, .int .i64 0, .int .i64 0, .int .i64 0, .int .i64 0, .int .i64 0, .int .i64 0].toArray 24) = v3 from hv3] at y3
  have x3 : Below w2.heap.size w2 v3 := by rw [← hv3]; exact (Below.refl _ _).alloc (Nat.le_refl _) _
  have c3 := storeN_box w2.heap.size [.int .i64 0, .slice none 0 0, .int .i64 0, .int .i64 0, .int .i64 0, .int .i64 0, .int .i64 0, .int .i64 0, .int .i64 0, .int .i64 0, .int .i64 0, .int .i64 0, .int .i64 0, .int .i64 0, .int .i64 0] v3 [] [.int .i64 0, .slice none 0 0, .int .i64 0, .int .i64 0, .int .i64 0, .int .i64 0, .int .i64 0, .int .i64 0, .int .i64 0, .int .i64 0, .int .i64 0, .int .i64 0, .int .i64 0, .int .i64 0, .int .i64 0] rfl y3
  have b3 := storeN_below (N := w2.heap.size) w2.heap.size (Nat.le_refl _) [.int .i64 0, .slice none 0 0, .int .i64 0, .int .i64 0, .int .i64 0, .int .i64 0, .int .i64 0, .int .i64 0, .int .i64 0, .int .i64 0, .int .i64 0, .int .i64 0, .int .i64 0, .int .i64 0, .int .i64 0] w2 v3 0 x3
  obtain ⟨w3, hw3⟩ : ∃ w3, storeN w2.heap.size v3 [.int .i64 0, .slice none 0 0, .int .i64 0, .int .i64 0, .int .i64 0, .int .i64 0, .int .i64 0, .int .i64 0, .int .i64 0, .int .i64 0, .int .i64 0, .int .i64 0, .int .i64 0, .int .i64 0, .int .i64 0] 0 = w3 := ⟨_, rfl⟩
  rw [show ([] : List Value).length = 0 from rfl, List.nil_append, hw3] at c3
  rw [hw3] at b3
  simp only [storeN, Nat.reduceAdd] at hw3
  have q0_ := y3.1 0 _ rfl
  have p0_ := y3.2 0 (by simp)
  have q1_ := y3.1 1 _ rfl
  have p1_ := y3.2 1 (by simp)
  have q2_ := y3.1 2 _ rfl
  have p2_ := y3.2 2 (by simp)
  have q3_ := y3.1 3 _ rfl
  have p3_ := y3.2 3 (by simp)
  have q4_ := y3.1 4 _ rfl
  have p4_ := y3.2 4 (by simp)
  have q5_ := y3.1 5 _ rfl
  have p5_ := y3.2 5 (by simp)
  have q6_ := y3.1 6 _ rfl
  have p6_ := y3.2 6 (by simp)
  have q7_ := y3.1 7 _ rfl
  have p7_ := y3.2 7 (by simp)
  have q8_ := y3.1 8 _ rfl
  have p8_ := y3.2 8 (by simp)
  have q9_ := y3.1 9 _ rfl
  have p9_ := y3.2 9 (by simp)
  have q10_ := y3.1 10 _ rfl
  have p10_ := y3.2 10 (by simp)
  have q11_ := y3.1 11 _ rfl
  have p11_ := y3.2 11 (by simp)
  have q12_ := y3.1 12 _ rfl
  have p12_ := y3.2 12 (by simp)
  have q13_ := y3.1 13 _ rfl
  have p13_ := y3.2 13 (by simp)
  have q14_ := y3.1 14 _ rfl
  have p14_ := y3.2 14 (by simp)
  clear y3 x3
  have hb12 := hb2.trans (b3.mono hb2.size)
  have kk := HKB.out.keep (hb2.trans (b3.mono hb2.size))
  have kk2 := HKB.out.keep hb2
  have a0 := kk.1 0 _ rfl
  have a1 := kk.1 1 _ rfl
  have HC3 := Lib.hid c3
  have HB3 := Lib.hid (HB1.out.trans (hb12.mono HB1.out.size))
  clear c3 b3 hb12 kk hb2 kk2
  go_wp2_with fail
  refine (CD.out w3).mono ?_
  clear hv3 hw3 a0 a1 q0_ p0_ q1_ p1_ q2_ p2_ q3_ p3_ q4_ p4_ q5_ p5_ q6_ p6_ q7_ p7_ q8_ p8_ q9_ p9_ q10_ p10_ q11_ p11_ q12_ p12_ q13_ p13_ q14_ p14_
  rintro e w4 ⟨rfl, hb4⟩
  obtain ⟨v5, hv5⟩ : ∃ v5, w4.alloc (.cells #[.int .i64 0, .slice none 0 0, .int .i64 0, .int .i64 0, .int .i64 0, .int .i64 0, .int .i64 0, .int .i64 0, .int .i64 0, .int .i64 0, .int .i64 0, .int .i64 0, .int .i64 0, .int .i64 0, .int .i64 0] 24) = v5 := ⟨_, rfl⟩
  have y3 := boxF_made w4 [.int .i64 0, .slice none 0 0, .int .i64 0, .int .i64 0, .int .i64 0, .int .i64 0, .int .i64 0, .int .i64 0, .int .i64 0, .int .i64 0, .int .i64 0, .int .i64 0, .int .i64 0, .int .i64 0, .int .i64 0] 24
  rw [show w4.alloc (.cells [.int .i64 0, .slice none 0 0, .int .i64 0, .int .i64 0, .int .i64 0, .int .i64 0, .int .i64 0, .int .i64 0, .int .i64 0, .int .i64 0, .int .i64 0, .int .i64 0, .int .i64 0, .int .i64 0, .int .i64 0].toArray 24) = v5 from hv5] at y3
  have x3 : Below w4.heap.size w4 v5 := by rw [← hv5]; exact (Below.refl _ _).alloc (Nat.le_refl _) _
  have c5 := storeN_box w4.heap.size [.int .i64 0, .slice none 0 0, .int .i64 0, .int .i64 0, .int .i64 0, .int .i64 0, .int .i64 0, .int .i64 0, .int .i64 0, .int .i64 0, .int .i64 0, .int .i64 0, .int .i64 0, .int .i64 0, .int .i64 0] v5 [] [.int .i64 0, .slice none 0 0, .int .i64 0, .int .i64 0, .int .i64 0, .int .i64 0, .int .i64 0, .int .i64 0, .int .i64 0, .int .i64 0, .int .i64 0, .int .i64 0, .int .i64 0, .int .i64 0, .int .i64 0] rfl y3
  have b5 := storeN_below (N := w4.heap.size) w4.heap.size (Nat.le_refl _) [.int .i64 0, .slice none 0 0, .int .i64 0, .int .i64 0, .int .i64 0, .int .i64 0, .int .i64 0, .int .i64 0, .int .i64 0, .int .i64 0, .int .i64 0, .int .i64 0, .int .i64 0, .int .i64 0, .int .i64 0] w4 v5 0 x3
  obtain ⟨w5, hw5⟩ : ∃ w5, storeN w4.heap.size v5 [.int .i64 0, .slice none 0 0, .int .i64 0, .int .i64 0, .int .i64 0, .int .i64 0, .int .i64 0, .int .i64 0, .int .i64 0, .int .i64 0, .int .i64 0, .int .i64 0, .int .i64 0, .int .i64 0, .int .i64 0] 0 = w5 := ⟨_, rfl⟩
  rw [show ([] : List Value).length = 0 from rfl, List.nil_append, hw5] at c5
  rw [hw5] at b5
  simp only [storeN, Nat.reduceAdd] at hw5
  have q0_ := y3.1 0 _ rfl
  have p0_ := y3.2 0 (by simp)
  have q1_ := y3.1 1 _ rfl
  have p1_ := y3.2 1 (by simp)
  have q2_ := y3.1 2 _ rfl
  have p2_ := y3.2 2 (by simp)
  have q3_ := y3.1 3 _ rfl
  have p3_ := y3.2 3 (by simp)
  have q4_ := y3.1 4 _ rfl
  have p4_ := y3.2 4 (by simp)
  have q5_ := y3.1 5 _ rfl
  have p5_ := y3.2 5 (by simp)
  have q6_ := y3.1 6 _ rfl
  have p6_ := y3.2 6 (by simp)
  have q7_ := y3.1 7 _ rfl
  have p7_ := y3.2 7 (by simp)
  have q8_ := y3.1 8 _ rfl
  have p8_ := y3.2 8 (by simp)
  have q9_ := y3.1 9 _ rfl
  have p9_ := y3.2 9 (by simp)
  have q10_ := y3.1 10 _ rfl
  have p10_ := y3.2 10 (by simp)
  have q11_ := y3.1 11 _ rfl
  have p11_ := y3.2 11 (by simp)
  have q12_ := y3.1 12 _ rfl
  have p12_ := y3.2 12 (by simp)
  have q13_ := y3.1 13 _ rfl
  have p13_ := y3.2 13 (by simp)
  have q14_ := y3.1 14 _ rfl
  have p14_ := y3.2 14 (by simp)
  clear y3 x3
  have hb35 := hb4.trans (b5.mono hb4.size)
  have c35 := HC3.out.keep hb35
  have d0_ := c35.1 0 _ rfl
  have d1_ := c35.1 1 _ rfl
  have d2_ := c35.1 2 _ rfl
  have d3_ := c35.1 3 _ rfl
  have d4_ := c35.1 4 _ rfl
  have d5_ := c35.1 5 _ rfl
  have d6_ := c35.1 6 _ rfl
  have d7_ := c35.1 7 _ rfl
  have d8_ := c35.1 8 _ rfl
  have d9_ := c35.1 9 _ rfl
  have d10_ := c35.1 10 _ rfl
  have d11_ := c35.1 11 _ rfl
  have d12_ := c35.1 12 _ rfl
  have d13_ := c35.1 13 _ rfl
  have d14_ := c35.1 14 _ rfl
  have e0_ := c5.1 0 _ rfl
  have e1_ := c5.1 1 _ rfl
  have e2_ := c5.1 2 _ rfl
  have e3_ := c5.1 3 _ rfl
  have e4_ := c5.1 4 _ rfl
  have e5_ := c5.1 5 _ rfl
  have e6_ := c5.1 6 _ rfl
  have e7_ := c5.1 7 _ rfl
  have e8_ := c5.1 8 _ rfl
  have e9_ := c5.1 9 _ rfl
  have e10_ := c5.1 10 _ rfl
  have e11_ := c5.1 11 _ rfl
  have e12_ := c5.1 12 _ rfl
  have e13_ := c5.1 13 _ rfl
  have e14_ := c5.1 14 _ rfl
  have HB5 := Lib.hid (HB3.out.trans (hb35.mono HB3.out.size))
  clear c5 b5 hb4 hb35 c35
  go_wp2_with fail
  refine (CS.out w5).mono ?_
  clear hv5 hw5 d0_ d1_ d2_ d3_ d4_ d5_ d6_ d7_ d8_ d9_ d10_ d11_ d12_ d13_ d14_ e0_ e1_ e2_ e3_ e4_ e5_ e6_ e7_ e8_ e9_ e10_ e11_ e12_ e13_ e14_ q0_ p0_ q1_ p1_ q2_ p2_ q3_ p3_ q4_ p4_ q5_ p5_ q6_ p6_ q7_ p7_ q8_ p8_ q9_ p9_ q10_ p10_ q11_ p11_ q12_ p12_ q13_ p13_ q14_ p14_
  rintro e w6 ⟨rfl, hb6⟩
  have HB6 := Lib.hid (HB5.out.trans (hb6.mono HB5.out.size))
  clear hb6
  go_wp2_with fail
  refine (CW.out _ (HT.out.below HB6.out)).mono ?_
  rintro e w7 ⟨rfl, hb7⟩
  go_wp2
  go_ret
  exact ⟨rfl, HB6.out.trans (hb7.mono HB6.out.size)⟩
set_option maxHeartbeats 6400000 in
theorem walkSmall2 (n f a b : Int) (hn64 : -9223372036854775808 ≤ n ∧ n ≤ 9223372036854775807) (hf64 : -9223372036854775808 ≤ f ∧ f ≤ 9223372036854775807) (ha64 : -9223372036854775808 ≤ a ∧ a ≤ 9223372036854775807) (hb64 : -9223372036854775808 ≤ b ∧ b ≤ 9223372036854775807) (hn : ¬ (n < 2 ∨ n > 8)) (hF : faultN (sugC (smallC n f a b)) (fullL n.toNat) = 0) (w : World) (hT : T64 w) :
    Calls Tryd.prog 4 #[.int .i64 n, .int .i64 f, .agg #[.int .i64 a, .int .i64 b]] w fun e w' => e = .returned (.bool true) ∧ Below w.heap.size w w' := by
  have HT := Lib.hid hT
  have CW := Lib.hid (fun (W : World) (hT : T64 W) => works48 W hT)
  have hsn := sugC_n (smallC n f a b)
  have hfit := full_fit (n := n.toNat) (by omega)
  have hlen : (fullL n.toNat).length ≤ 4096 := fullTo_len64 (by omega) (by omega)
  have hsf : FitsC (sugC (smallC n f a b)) := sugC_fits (small_fits hn64 hf64 ha64 hb64)
  have CC := Lib.hid (fun (W : World) (hT : T64 W) => (cSmall n f a b W hT).mono (fun e W' h => (⟨h.2.2.2 hn hF, h.1⟩ : (∃ A k, e = .returned (.tuple #[.agg ((sugC (smallC n f a b)).cells A (fullL n.toNat).length k).toArray, .int .i64 0]) ∧ LinksAt W' A (fullL n.toNat) ∧ (fullL n.toNat).length ≤ k) ∧ Below W.heap.size W W')))
  have CD := Lib.hid (fun (W : World) => (rSmall n f a b W).mono (fun e W' h => (⟨h.2.2.2 hn hF, h.1⟩ : (∃ A k, e = .returned (.tuple #[.agg ((sugC (smallC n f a b)).cells A (fullL n.toNat).length k).toArray, .int .i64 0]) ∧ LinksAt W' A (fullL n.toNat) ∧ (fullL n.toNat).length ≤ k) ∧ Below W.heap.size W W')))
  have hn9 : n < 9 := by omega
  obtain ⟨sc, hsc⟩ : ∃ sc, sugC (smallC n f a b) = sc := ⟨_, rfl⟩
  rw [hsc] at CC CD hsn hsf hF
  obtain ⟨L, hL⟩ : ∃ L, fullL n.toNat = L := ⟨_, rfl⟩
  rw [hL] at CC CD hfit hlen hF
  obtain ⟨l, hl⟩ : ∃ l, L.length = l := ⟨_, rfl⟩
  rw [hl] at CC CD hlen
  have CS := Lib.hid (fun (A1 A2 : Option Addr) (k1 k2 : Nat) (W : World) (h1 : LinksAt W A1 L) (h2 : LinksAt W A2 L) => rSame sc sc hsf hsf A1 A2 k1 k2 L L hl hl hfit hfit hlen hlen W h1 h2)
  rw [show sameB sc sc L L = true by unfold sameB; simp] at CS
  have CK := Lib.hid (fun (A1 : Option Addr) (k1 : Nat) (W : World) (h1 : LinksAt W A1 L) (hT : T64 W) => cCheck sc A1 l k1 L hl hfit (by omega) (fun _ => by rw [hsn]; exact hn9) W h1 hT)
  rw [hF, if_pos rfl] at CK
  clear hsc hL hl hfit hlen hsf hsn hn9 hF hn
  obtain ⟨sn, sf, sdmin, sdmax, srho, sslew, sround, swindow, sattend, sseen, shist, sfly, squota, sbody⟩ := sc
  have k0 : ∀ j v, ([.int .i64 a, .int .i64 b] : List Value)[j]? = some v → (w.alloc (.cells #[.int .i64 a, .int .i64 b] 31)).cell? ⟨w.heap.size, j, none⟩ = some v := (boxF_made w [.int .i64 a, .int .i64 b] 31).1
  have k1 := (Below.refl w.heap.size w).alloc (Nat.le_refl _) (.cells #[.int .i64 a, .int .i64 b] 31)
  have kb := boxF_made w [.int .i64 a, .int .i64 b] 31
  obtain ⟨w1, hw1⟩ : ∃ w1, w.alloc (.cells #[.int .i64 a, .int .i64 b] 31) = w1 := ⟨_, rfl⟩
  rw [show w.alloc (.cells [.int .i64 a, .int .i64 b].toArray 31) = w1 from hw1] at kb
  rw [hw1] at k1
  clear k0
  have HB1 := Lib.hid k1
  have HKB := Lib.hid kb
  have a0 := kb.1 0 _ rfl
  have a1 := kb.1 1 _ rfl
  clear k1 kb
  go_enter Tryd.func4, Tryd.ntmps4
  go_wp2_with fail
  refine (CC.out w1 (HT.out.below HB1.out)).mono ?_
  clear hw1 a0 a1
  rintro e w2 ⟨⟨A1, k1, rfl, hLA1, hk1⟩, hb2⟩
  simp only [Cn.cells]
  obtain ⟨w3, hw3⟩ : ∃ w3, w2.alloc (.cells #[.int .i64 sn, .slice A1 l k1, .int .i64 sf, .int .i64 sdmin, .int .i64 sdmax, .int .i64 srho, .int .i64 sslew, .int .i64 sround, .int .i64 swindow, .int .i64 sattend, .int .i64 sseen, .int .i64 shist, .int .i64 sfly, .int .i64 squota, .int .i64 sbody] 24) = w3 := ⟨_, rfl⟩
  have c3 := boxF_made w2 [.int .i64 sn, .slice A1 l k1, .int .i64 sf, .int .i64 sdmin, .int .i64 sdmax, .int .i64 srho, .int .i64 sslew, .int .i64 sround, .int .i64 swindow, .int .i64 sattend, .int .i64 sseen, .int .i64 shist, .int .i64 sfly, .int .i64 squota, .int .i64 sbody] 24
  rw [show w2.alloc (.cells [.int .i64 sn, .slice A1 l k1, .int .i64 sf, .int .i64 sdmin, .int .i64 sdmax, .int .i64 srho, .int .i64 sslew, .int .i64 sround, .int .i64 swindow, .int .i64 sattend, .int .i64 sseen, .int .i64 shist, .int .i64 sfly, .int .i64 squota, .int .i64 sbody].toArray 24) = w3 from hw3] at c3
  have b3 : Below w2.heap.size w2 w3 := by rw [← hw3]; exact (Below.refl _ _).alloc (Nat.le_refl _) _
  have hb12 := hb2.trans (b3.mono hb2.size)
  have kk := HKB.out.keep hb12
  have a0 := kk.1 0 _ rfl
  have a1 := kk.1 1 _ rfl
  have HC3 := Lib.hid c3
  have HB3 := Lib.hid (HB1.out.trans (hb12.mono HB1.out.size))
  have HL3 := Lib.hid (hLA1.below b3)
  clear c3 b3 hb12 kk hb2 hLA1
  go_wp2_with fail
  refine (CD.out w3).mono ?_
  clear hw3 a0 a1
  rintro e w4 ⟨⟨A2, k2, rfl, hLA2, hk2⟩, hb4⟩
  simp only [Cn.cells]
  obtain ⟨w5, hw5⟩ : ∃ w5, w4.alloc (.cells #[.int .i64 sn, .slice A2 l k2, .int .i64 sf, .int .i64 sdmin, .int .i64 sdmax, .int .i64 srho, .int .i64 sslew, .int .i64 sround, .int .i64 swindow, .int .i64 sattend, .int .i64 sseen, .int .i64 shist, .int .i64 sfly, .int .i64 squota, .int .i64 sbody] 24) = w5 := ⟨_, rfl⟩
  have c5 := boxF_made w4 [.int .i64 sn, .slice A2 l k2, .int .i64 sf, .int .i64 sdmin, .int .i64 sdmax, .int .i64 srho, .int .i64 sslew, .int .i64 sround, .int .i64 swindow, .int .i64 sattend, .int .i64 sseen, .int .i64 shist, .int .i64 sfly, .int .i64 squota, .int .i64 sbody] 24
  rw [show w4.alloc (.cells [.int .i64 sn, .slice A2 l k2, .int .i64 sf, .int .i64 sdmin, .int .i64 sdmax, .int .i64 srho, .int .i64 sslew, .int .i64 sround, .int .i64 swindow, .int .i64 sattend, .int .i64 sseen, .int .i64 shist, .int .i64 sfly, .int .i64 squota, .int .i64 sbody].toArray 24) = w5 from hw5] at c5
  have b5 : Below w4.heap.size w4 w5 := by rw [← hw5]; exact (Below.refl _ _).alloc (Nat.le_refl _) _
  have hb35 := hb4.trans (b5.mono hb4.size)
  have c35 := HC3.out.keep hb35
  have d0_ := c35.1 0 _ rfl
  have d1_ := c35.1 1 _ rfl
  have d2_ := c35.1 2 _ rfl
  have d3_ := c35.1 3 _ rfl
  have d4_ := c35.1 4 _ rfl
  have d5_ := c35.1 5 _ rfl
  have d6_ := c35.1 6 _ rfl
  have d7_ := c35.1 7 _ rfl
  have d8_ := c35.1 8 _ rfl
  have d9_ := c35.1 9 _ rfl
  have d10_ := c35.1 10 _ rfl
  have d11_ := c35.1 11 _ rfl
  have d12_ := c35.1 12 _ rfl
  have d13_ := c35.1 13 _ rfl
  have d14_ := c35.1 14 _ rfl
  have e0_ := c5.1 0 _ rfl
  have e1_ := c5.1 1 _ rfl
  have e2_ := c5.1 2 _ rfl
  have e3_ := c5.1 3 _ rfl
  have e4_ := c5.1 4 _ rfl
  have e5_ := c5.1 5 _ rfl
  have e6_ := c5.1 6 _ rfl
  have e7_ := c5.1 7 _ rfl
  have e8_ := c5.1 8 _ rfl
  have e9_ := c5.1 9 _ rfl
  have e10_ := c5.1 10 _ rfl
  have e11_ := c5.1 11 _ rfl
  have e12_ := c5.1 12 _ rfl
  have e13_ := c5.1 13 _ rfl
  have e14_ := c5.1 14 _ rfl
  have HB5 := Lib.hid (HB3.out.trans (hb35.mono HB3.out.size))
  have HL1 := Lib.hid (HL3.out.below hb35)
  have HL2 := Lib.hid (hLA2.below b5)
  have HC5 := Lib.hid c35
  clear c5 b5 hb4 hb35 c35 hLA2
  go_wp2_with fail
  refine (CS.out A1 A2 k1 k2 w5 HL1.out HL2.out).mono ?_
  clear hw5 d0_ d1_ d2_ d3_ d4_ d5_ d6_ d7_ d8_ d9_ d10_ d11_ d12_ d13_ d14_ e0_ e1_ e2_ e3_ e4_ e5_ e6_ e7_ e8_ e9_ e10_ e11_ e12_ e13_ e14_
  rintro e w6 ⟨rfl, hb6⟩
  have HB6 := Lib.hid (HB5.out.trans (hb6.mono HB5.out.size))
  have HL6 := Lib.hid (HL1.out.below hb6)
  have c6 := HC5.out.keep hb6
  have g0_ := c6.1 0 _ rfl
  have g1_ := c6.1 1 _ rfl
  have g2_ := c6.1 2 _ rfl
  have g3_ := c6.1 3 _ rfl
  have g4_ := c6.1 4 _ rfl
  have g5_ := c6.1 5 _ rfl
  have g6_ := c6.1 6 _ rfl
  have g7_ := c6.1 7 _ rfl
  have g8_ := c6.1 8 _ rfl
  have g9_ := c6.1 9 _ rfl
  have g10_ := c6.1 10 _ rfl
  have g11_ := c6.1 11 _ rfl
  have g12_ := c6.1 12 _ rfl
  have g13_ := c6.1 13 _ rfl
  have g14_ := c6.1 14 _ rfl
  clear hb6 c6
  go_wp2_with fail
  refine (CK.out A1 k1 _ HL6.out (HT.out.below HB6.out)).mono ?_
  clear g0_ g1_ g2_ g3_ g4_ g5_ g6_ g7_ g8_ g9_ g10_ g11_ g12_ g13_ g14_
  rintro e w7 ⟨rfl, hb7⟩
  have HB7 := Lib.hid (HB6.out.trans (hb7.mono HB6.out.size))
  clear hb7
  go_wp2_with fail
  refine (CW.out _ (HT.out.below HB7.out)).mono ?_
  rintro e w8 ⟨rfl, hb8⟩
  go_wp2
  go_ret
  exact ⟨rfl, HB7.out.trans (hb8.mono HB7.out.size)⟩
theorem walkSmall (n f a b : Int) (hn64 : -9223372036854775808 ≤ n ∧ n ≤ 9223372036854775807) (hf64 : -9223372036854775808 ≤ f ∧ f ≤ 9223372036854775807) (ha64 : -9223372036854775808 ≤ a ∧ a ≤ 9223372036854775807) (hb64 : -9223372036854775808 ≤ b ∧ b ≤ 9223372036854775807) (w : World) (hT : T64 w) :
    Calls Tryd.prog 4 #[.int .i64 n, .int .i64 f, .agg #[.int .i64 a, .int .i64 b]] w fun e w' => e = .returned (.bool true) ∧ Below w.heap.size w w' := by
  by_cases hn : n < 2 ∨ n > 8
  · exact walkSmall0 n f a b hn64 hf64 ha64 hb64 hn w hT
  · by_cases hF : faultN (sugC (smallC n f a b)) (fullL n.toNat) = 0
    · exact walkSmall2 n f a b hn64 hf64 ha64 hb64 hn hF w hT
    · exact walkSmall1 n f a b hn64 hf64 ha64 hb64 hn hF w hT
end Go.Proofs.YtpbfacabafkheaaDoor
