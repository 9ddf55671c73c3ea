/- The walks of the statements of layer 53. -/
import Derived.Test.YtjclhjijpailoaaGreatDoorFam
namespace Go.Proofs.YtjclhjijpailoaaGreatDoor
open Go.RowKit Law
set_option linter.unusedVariables false
set_option linter.unusedSimpArgs false
set_option maxRecDepth 100000

set_option maxHeartbeats 6400000 in
theorem walkFNil (c : Cn) (A : Option Addr) (l k : Nat) (L : List Pr) (hl : L.length = l) (hlk : l ≤ k) (hk : k ≤ maxLen) (hfit : ∀ x ∈ L, PrF x) (b : Nat) (hb : b < 256) (w : World) (hA : LinksAt w A L) (hT : T64 w) :
    Calls Tryz.prog 4 #[.agg (c.cells A l k).toArray, .int .u8 (b : Int)] w fun e w' => e = .returned (.bool true) ∧ Below w.heap.size w w' := by
  obtain ⟨n, f, dmin, dmax, rho, slew, round, window, attend, seen, hist, fly, quota, body⟩ := c
  have hm : l ≤ 9223372036854775807 := by unfold maxLen at hk; omega
  have hbad : faultN ⟨1, f, dmin, dmax, rho, slew, round, window, attend, seen, hist, fly, quota, body⟩ L ≠ 0 := by
    unfold faultN
    rw [if_pos (.inr (by show (1 : Int) < 2; omega))]
    decide
  have CS := fun (B : Nat) (W : World) hB (hA : LinksAt W A L) (hT : T64 W) => famScript ⟨1, f, dmin, dmax, rho, slew, round, window, attend, seen, hist, fly, quota, body⟩ A l k L hl hfit hm (fun _ => by show (1 : Int) < 9; omega) (some ⟨B, 0, none⟩) 1 [b] 1 rfl (by omega) (fun x hx => by simp at hx; omega) W hB hA hT
  have CW := fun (W : World) (hA : LinksAt W A L) (hT : T64 W) => famWorst0 ⟨1, f, dmin, dmax, rho, slew, round, window, attend, seen, hist, fly, quota, body⟩ A l k L hl hfit hm (fun _ => by show (1 : Int) < 9; omega) hbad W hA hT
  have k0 := boxF_made w [.int .i64 1, .slice A l k, .int .i64 f, .int .i64 dmin, .int .i64 dmax, .int .i64 rho, .int .i64 slew, .int .i64 round, .int .i64 window, .int .i64 attend, .int .i64 seen, .int .i64 hist, .int .i64 fly, .int .i64 quota, .int .i64 body] 26
  have k1 := (Below.refl w.heap.size w).alloc (Nat.le_refl _) (.cells #[.int .i64 1, .slice A l k, .int .i64 f, .int .i64 dmin, .int .i64 dmax, .int .i64 rho, .int .i64 slew, .int .i64 round, .int .i64 window, .int .i64 attend, .int .i64 seen, .int .i64 hist, .int .i64 fly, .int .i64 quota, .int .i64 body] 26)
  obtain ⟨w1, hw1⟩ : ∃ w1, w.alloc (.cells #[.int .i64 1, .slice A l k, .int .i64 f, .int .i64 dmin, .int .i64 dmax, .int .i64 rho, .int .i64 slew, .int .i64 round, .int .i64 window, .int .i64 attend, .int .i64 seen, .int .i64 hist, .int .i64 fly, .int .i64 quota, .int .i64 body] 26) = w1 := ⟨_, rfl⟩
  have hs1 : w1.heap.size = w.heap.size + 1 := by rw [← hw1]; simp
  rw [hw1] at k0 k1
  have hb2 : Below w1.heap.size w1 (w1.alloc (.cells #[.int .u8 (b : Int)] 5)) := (Below.refl _ _).alloc (Nat.le_refl _) _
  have CS := Lib.hid (CS w1.heap.size (w1.alloc (.cells #[.int .u8 (b : Int)] 5)) (fun q x hq => by
    match q, hq with
    | 0, hq => simp at hq; subst hq; exact ⟨w1.heap.size, 0, rfl, by simp, by simp⟩) ((hA.below k1).below hb2) ((hT.below k1).below hb2))
  have CW := Lib.hid CW
  have HK := Lib.hid (And.intro k0 (And.intro k1 (And.intro hb2 (And.intro hA (And.intro hT (And.intro hbad hs1))))))
  have kc0 := k0.1 0 _ rfl
  have kc1 := k0.1 1 _ rfl
  have kc2 := k0.1 2 _ rfl
  have kc3 := k0.1 3 _ rfl
  have kc4 := k0.1 4 _ rfl
  have kc5 := k0.1 5 _ rfl
  have kc6 := k0.1 6 _ rfl
  have kc7 := k0.1 7 _ rfl
  have kc8 := k0.1 8 _ rfl
  have kc9 := k0.1 9 _ rfl
  have kc10 := k0.1 10 _ rfl
  have kc11 := k0.1 11 _ rfl
  have kc12 := k0.1 12 _ rfl
  have kc13 := k0.1 13 _ rfl
  have kc14 := k0.1 14 _ rfl

  clear k0 k1 hb2 hA hT hs1 hfit hl hm hbad
  go_enter Tryz.func4, Tryz.ntmps4
  go_wp2_with (first
    | (go_at_call 7; (with_reducible refine (famAddNil _ _).mono ?_); rintro e w' ⟨rfl, rfl⟩)
    | (go_at_call 10; (with_reducible refine (famActsNil _).mono ?_); rintro e w' ⟨rfl, rfl⟩)
    | (go_at_call 9; (with_reducible refine (famFaultyNil _).mono ?_); rintro e w' ⟨rfl, rfl⟩))
  have HKC : Hid (∀ W, Below (w1.alloc (.cells #[.int .u8 (b : Int)] 5)).heap.size (w1.alloc (.cells #[.int .u8 (b : Int)] 5)) W → BoxF W w.heap.size [.int .i64 1, .slice A l k, .int .i64 f, .int .i64 dmin, .int .i64 dmax, .int .i64 rho, .int .i64 slew, .int .i64 round, .int .i64 window, .int .i64 attend, .int .i64 seen, .int .i64 hist, .int .i64 fly, .int .i64 quota, .int .i64 body] ∧ Below w.heap.size w W ∧ LinksAt W A L ∧ T64 W) := fun W hW =>
    ⟨(HK.out.1.keep HK.out.2.2.1).keep hW, (HK.out.2.1.trans (HK.out.2.2.1.mono (HK.out.2.1.size))).trans (hW.mono (by have := HK.out.2.2.2.2.2.2; simp; omega)), ((HK.out.2.2.2.1.below HK.out.2.1).below HK.out.2.2.1).below hW, ((HK.out.2.2.2.2.1.below HK.out.2.1).below HK.out.2.2.1).below hW⟩
  refine CS.out.mono ?_
  rintro e w4 ⟨hb4, hs4, -⟩
  obtain rfl := hs4 HK.out.2.2.2.2.2.1
  obtain ⟨q0, q1, q2, q3⟩ := HKC.out w4 hb4
  have C2 := Lib.hid (CW.out w4 q2 q3)
  have kd0 := q0.1 0 _ rfl
  have kd1 := q0.1 1 _ rfl
  have kd2 := q0.1 2 _ rfl
  have kd3 := q0.1 3 _ rfl
  have kd4 := q0.1 4 _ rfl
  have kd5 := q0.1 5 _ rfl
  have kd6 := q0.1 6 _ rfl
  have kd7 := q0.1 7 _ rfl
  have kd8 := q0.1 8 _ rfl
  have kd9 := q0.1 9 _ rfl
  have kd10 := q0.1 10 _ rfl
  have kd11 := q0.1 11 _ rfl
  have kd12 := q0.1 12 _ rfl
  have kd13 := q0.1 13 _ rfl
  have kd14 := q0.1 14 _ rfl
  have H4 := Lib.hid (And.intro q1 q3)
  clear q0 q1 q2 q3 hb4 hs4 kc0 kc1 kc2 kc3 kc4 kc5 kc6 kc7 kc8 kc9 kc10 kc11 kc12 kc13 kc14
  go_wp2_with fail
  refine C2.out.mono ?_
  rintro e w5 ⟨rfl, hb5⟩
  have C3 := Lib.hid (works53 w5 (H4.out.2.below hb5))
  have H5 := Lib.hid (H4.out.1.trans (hb5.mono H4.out.1.size))
  clear hb5
  go_wp2_with fail
  refine C3.out.mono ?_
  rintro e w6 ⟨rfl, hb6⟩
  have H6 := Lib.hid (H5.out.trans (hb6.mono H5.out.size))
  clear hb6
  go_wp2
  go_ret
  exact ⟨rfl, H6.out⟩
end Go.Proofs.YtjclhjijpailoaaGreatDoor
