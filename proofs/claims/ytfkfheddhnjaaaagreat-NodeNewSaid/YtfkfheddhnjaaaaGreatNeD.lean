/- The reference's node: how it is made, or what is wrong. -/
import Derived.Test.YtfkfheddhnjaaaaGreatNeC
import Derived.Test.YtfkfheddhnjaaaaGreatNdI
import Derived.Test.YtfkfheddhnjaaaaGreatNdP
import Derived.Test.YtfkfheddhnjaaaaGreatRhA
namespace Go.Proofs.YtfkfheddhnjaaaaGreat
open Go.RowKit Law
set_option linter.unusedVariables false
set_option linter.unusedSimpArgs false
set_option maxRecDepth 100000

/-- What a new node of the reference's holds, as far as anybody asks. -/
def rCell : Nat → Option Value
  | 32 => some (.int .i64 0)
  | 33 => some (.int .i64 0)
  | 57 => some (.slice none 0 0)
  | 59 => some (.slice none 0 0)
  | 68 => some (.int .i64 0)
  | 69 => some (.slice none 0 0)
  | 74 => some (.int .i64 0)
  | 77 => some (.slice none 0 0)
  | 82 => some (.slice none 0 0)
  | 149 => some (.bool false)
  | o => if 152 ≤ o ∧ o < 172 then some (.int .i64 0) else none
def RefNd (w : World) (B : Nat) : Prop := ∀ o v, rCell o = some v → w.cell? ⟨B, o, none⟩ = some v
def RNdPost (c : Cn) (L : List Pr) (id : Int) (w : World) (e : Ending) (w' : World) : Prop := Below w.heap.size w w' ∧
  (newErr c L id = 0 → ∃ B, e = .returned (.tuple #[.pointer (some ⟨B, 0, none⟩), .int .i64 0]) ∧ RefNd w' B) ∧
  (newErr c L id ≠ 0 → e = .returned (.tuple #[.pointer none, .int .i64 (newErr c L id : Int)]))
theorem rndPost_bad {c : Cn} {L : List Pr} {id : Int} {w w' : World} {x : Nat} (h : newErr c L id = x) (hx : x ≠ 0) (hb : Below w.heap.size w w') : RNdPost c L id w (.returned (.tuple #[.pointer none, .int .i64 (x : Int)])) w' :=
  ⟨hb, fun h0 => absurd (h.symm.trans h0) hx, fun _ => by rw [h]⟩
set_option maxHeartbeats 6400000 in
theorem rNodeA (c : Cn) (A : Option Addr) (l k : Nat) (L : List Pr) (hl : L.length = l) (hm : l ≤ 4000000000) (id hard : Int) (w : World) (hA : LinksAt w A L) (h1 : gErr c.n L ≠ 0) :
    Calls Tryz.prog 5 #[.agg (c.cells A l k).toArray, .int .i64 id, .int .i64 hard] w (RNdPost c L id w) := by
  obtain ⟨n, f, dmin, dmax, rho, slew, round, window, attend, seen, hist, fly, quota, body⟩ := c
  replace h1 : gErr n L ≠ 0 := h1
  obtain ⟨x, hx⟩ : ∃ x, gErr n L = x := ⟨_, rfl⟩
  have HE : Hid (newErr ⟨n, f, dmin, dmax, rho, slew, round, window, attend, seen, hist, fly, quota, body⟩ L id = 17) := by unfold Hid newErr; rw [if_pos (.inl h1)]
  have HP : Hid (∀ w', Below w.heap.size w w' → RNdPost ⟨n, f, dmin, dmax, rho, slew, round, window, attend, seen, hist, fly, quota, body⟩ L id w (.returned (.tuple #[.pointer none, .int .i64 17])) w') := fun w' h => rndPost_bad HE.out (by decide) h
  have HX := Lib.hid (And.intro hx h1)
  clear hx h1
  have CE := Lib.hid (fun W => refEnough ⟨n, f, dmin, dmax, rho, slew, round, window, attend, seen, hist, fly, quota, body⟩ A l k W)
  have CG := fun (W : World) (hW : Below w.heap.size w W) => rNew n A k L hl hm W (hA.below hW)
  unfold RNewPost at CG
  have CG := Lib.hid CG
  have k0 := boxF_made w [.int .i64 n, .slice A l k, .int .i64 f, .int .i64 dmin, .int .i64 dmax, .int .i64 rho, .int .i64 slew, .int .i64 round, .int .i64 window, .int .i64 attend, .int .i64 seen, .int .i64 hist, .int .i64 fly, .int .i64 quota, .int .i64 body] 24
  have k1 := (Below.refl w.heap.size w).alloc (Nat.le_refl _) (.cells #[.int .i64 n, .slice A l k, .int .i64 f, .int .i64 dmin, .int .i64 dmax, .int .i64 rho, .int .i64 slew, .int .i64 round, .int .i64 window, .int .i64 attend, .int .i64 seen, .int .i64 hist, .int .i64 fly, .int .i64 quota, .int .i64 body] 24)
  obtain ⟨w1, hw1⟩ : ∃ w1, w.alloc (.cells #[.int .i64 n, .slice A l k, .int .i64 f, .int .i64 dmin, .int .i64 dmax, .int .i64 rho, .int .i64 slew, .int .i64 round, .int .i64 window, .int .i64 attend, .int .i64 seen, .int .i64 hist, .int .i64 fly, .int .i64 quota, .int .i64 body] 24) = w1 := ⟨_, rfl⟩
  have hs1 : w1.heap.size = w.heap.size + 1 := by rw [← hw1]; simp
  rw [hw1] at k0 k1
  have kc0 := k0.1 0 _ rfl
  have kc1 := k0.1 1 _ rfl
  have kc2 := k0.1 2 _ rfl
  have kc3 := k0.1 3 _ rfl
  have kc4 := k0.1 4 _ rfl
  have kc5 := k0.1 5 _ rfl
  have kc6 := k0.1 6 _ rfl
  have kc7 := k0.1 7 _ rfl
  have kc8 := k0.1 8 _ rfl
  have kc9 := k0.1 9 _ rfl
  have kc10 := k0.1 10 _ rfl
  have kc11 := k0.1 11 _ rfl
  have kc12 := k0.1 12 _ rfl
  have kc13 := k0.1 13 _ rfl
  have kc14 := k0.1 14 _ rfl
  have H1 := Lib.hid (And.intro k0 (And.intro k1 hs1))
  have C1 := Lib.hid (CG.out w1 k1)
  have HLL := Lib.hid hl
  clear k0 k1 hs1 hA hm hl
  go_enter Tryz.func5, Tryz.ntmps5
  go_wp2_with fail
  refine C1.out.mono ?_
  rintro e w2 ⟨hb2, hok, hbad⟩
  obtain rfl := hbad HX.out.2
  have hb12 := H1.out.2.1.trans (hb2.mono H1.out.2.1.size)
  have HF := Lib.hid (HP.out _ (hb12.alloc hb12.size (.cells #[.int .i64 0, .slice none 0 0] 88)))
  rw [HX.out.1]
  have hx2 := HX.out.2
  rw [HX.out.1] at hx2
  obtain ⟨y, hy⟩ : ∃ y : Int, (x : Int) = y := ⟨_, rfl⟩
  have hy1 : ¬ y = 0 := by omega
  have hy0 : (y == 0) = false := by rw [beq_eq_false_iff_ne]; exact hy1
  rw [hy]
  clear hb2 hok hbad hy hx2 hb12
  go_wp2
  go_ret2
  exact HF.out
set_option maxHeartbeats 6400000 in
theorem rNodeB (c : Cn) (A : Option Addr) (l k : Nat) (L : List Pr) (hl : L.length = l) (hm : l ≤ 4000000000) (id hard : Int) (w : World) (hA : LinksAt w A L) (h1 : gErr c.n L = 0) (h2 : enoughB c = false) :
    Calls Tryz.prog 5 #[.agg (c.cells A l k).toArray, .int .i64 id, .int .i64 hard] w (RNdPost c L id w) := by
  obtain ⟨n, f, dmin, dmax, rho, slew, round, window, attend, seen, hist, fly, quota, body⟩ := c
  replace h1 : gErr n L = 0 := h1
  have HE : Hid (newErr ⟨n, f, dmin, dmax, rho, slew, round, window, attend, seen, hist, fly, quota, body⟩ L id = 17) := by unfold Hid newErr; rw [if_pos (.inr (.inl h2))]
  have HP : Hid (∀ w', Below w.heap.size w w' → RNdPost ⟨n, f, dmin, dmax, rho, slew, round, window, attend, seen, hist, fly, quota, body⟩ L id w (.returned (.tuple #[.pointer none, .int .i64 17])) w') := fun w' h => rndPost_bad HE.out (by decide) h
  have HX := Lib.hid (And.intro h1 h2)
  clear h1 h2
  have CE := Lib.hid (fun W => refEnough ⟨n, f, dmin, dmax, rho, slew, round, window, attend, seen, hist, fly, quota, body⟩ A l k W)
  have CG := fun (W : World) (hW : Below w.heap.size w W) => rNew n A k L hl hm W (hA.below hW)
  unfold RNewPost at CG
  have CG := Lib.hid CG
  have k0 := boxF_made w [.int .i64 n, .slice A l k, .int .i64 f, .int .i64 dmin, .int .i64 dmax, .int .i64 rho, .int .i64 slew, .int .i64 round, .int .i64 window, .int .i64 attend, .int .i64 seen, .int .i64 hist, .int .i64 fly, .int .i64 quota, .int .i64 body] 24
  have k1 := (Below.refl w.heap.size w).alloc (Nat.le_refl _) (.cells #[.int .i64 n, .slice A l k, .int .i64 f, .int .i64 dmin, .int .i64 dmax, .int .i64 rho, .int .i64 slew, .int .i64 round, .int .i64 window, .int .i64 attend, .int .i64 seen, .int .i64 hist, .int .i64 fly, .int .i64 quota, .int .i64 body] 24)
  obtain ⟨w1, hw1⟩ : ∃ w1, w.alloc (.cells #[.int .i64 n, .slice A l k, .int .i64 f, .int .i64 dmin, .int .i64 dmax, .int .i64 rho, .int .i64 slew, .int .i64 round, .int .i64 window, .int .i64 attend, .int .i64 seen, .int .i64 hist, .int .i64 fly, .int .i64 quota, .int .i64 body] 24) = w1 := ⟨_, rfl⟩
  have hs1 : w1.heap.size = w.heap.size + 1 := by rw [← hw1]; simp
  rw [hw1] at k0 k1
  have kc0 := k0.1 0 _ rfl
  have kc1 := k0.1 1 _ rfl
  have kc2 := k0.1 2 _ rfl
  have kc3 := k0.1 3 _ rfl
  have kc4 := k0.1 4 _ rfl
  have kc5 := k0.1 5 _ rfl
  have kc6 := k0.1 6 _ rfl
  have kc7 := k0.1 7 _ rfl
  have kc8 := k0.1 8 _ rfl
  have kc9 := k0.1 9 _ rfl
  have kc10 := k0.1 10 _ rfl
  have kc11 := k0.1 11 _ rfl
  have kc12 := k0.1 12 _ rfl
  have kc13 := k0.1 13 _ rfl
  have kc14 := k0.1 14 _ rfl
  have H1 := Lib.hid (And.intro k0 (And.intro k1 hs1))
  have C1 := Lib.hid (CG.out w1 k1)
  have HLL := Lib.hid hl
  clear k0 k1 hs1 hA hm hl
  go_enter Tryz.func5, Tryz.ntmps5
  go_wp2_with fail
  refine C1.out.mono ?_
  rintro e w2 ⟨hb2, hok, hbad⟩
  obtain ⟨A2, k2, rfl, hA2, hk2⟩ := hok HX.out.1
  rw [HLL.out]
  have g3 := boxF_made w2 [.int .i64 n, .slice A2 l k2] 88
  have b3 := (Below.refl w2.heap.size w2).alloc (Nat.le_refl _) (.cells #[.int .i64 n, .slice A2 l k2] 88)
  obtain ⟨w3, hw3⟩ : ∃ w3, w2.alloc (.cells #[.int .i64 n, .slice A2 l k2] 88) = w3 := ⟨_, rfl⟩
  have hs3 : w3.heap.size = w2.heap.size + 1 := by rw [← hw3]; simp
  rw [hw3] at b3
  rw [show w2.alloc (.cells [.int .i64 n, .slice A2 l k2].toArray 88) = w3 from hw3] at g3
  have b23 := hb2.trans (b3.mono hb2.size)
  have c3 := H1.out.1.keep b23
  have hB3 := H1.out.2.1.trans (b23.mono H1.out.2.1.size)
  have kd0 := c3.1 0 _ rfl
  have kd1 := c3.1 1 _ rfl
  have kd2 := c3.1 2 _ rfl
  have kd3 := c3.1 3 _ rfl
  have kd4 := c3.1 4 _ rfl
  have kd5 := c3.1 5 _ rfl
  have kd6 := c3.1 6 _ rfl
  have kd7 := c3.1 7 _ rfl
  have kd8 := c3.1 8 _ rfl
  have kd9 := c3.1 9 _ rfl
  have kd10 := c3.1 10 _ rfl
  have kd11 := c3.1 11 _ rfl
  have kd12 := c3.1 12 _ rfl
  have kd13 := c3.1 13 _ rfl
  have kd14 := c3.1 14 _ rfl
  have hs2 := hb2.size
  have H3 := Lib.hid (And.intro hB3 (And.intro c3 (And.intro g3 (And.intro (hA2.below b3) (And.intro hs3 hs2)))))
  clear hb2 hok hbad b3 b23 c3 hB3 g3 hs3 hs2 hA2 kc0 kc1 kc2 kc3 kc4 kc5 kc6 kc7 kc8 kc9 kc10 kc11 kc12 kc13 kc14
  go_wp2_with fail
  refine (CE.out _).mono ?_
  rintro e w5 ⟨rfl, hb5⟩
  rw [HX.out.2]
  have HF := Lib.hid (HP.out w5 (H3.out.1.trans (hb5.mono H3.out.1.size)))
  clear hb5
  go_wp2
  go_ret2
  exact HF.out
set_option maxHeartbeats 6400000 in
theorem rNodeC (c : Cn) (A : Option Addr) (l k : Nat) (L : List Pr) (hl : L.length = l) (hm : l ≤ 4000000000) (id hard : Int) (w : World) (hA : LinksAt w A L) (h1 : gErr c.n L = 0) (h2 : enoughB c = true) (h3 : c.f < 0) :
    Calls Tryz.prog 5 #[.agg (c.cells A l k).toArray, .int .i64 id, .int .i64 hard] w (RNdPost c L id w) := by
  obtain ⟨n, f, dmin, dmax, rho, slew, round, window, attend, seen, hist, fly, quota, body⟩ := c
  replace h1 : gErr n L = 0 := h1
  replace h3 : f < 0 := h3
  have HE : Hid (newErr ⟨n, f, dmin, dmax, rho, slew, round, window, attend, seen, hist, fly, quota, body⟩ L id = 17) := by unfold Hid newErr; rw [if_pos (.inr (.inr h3))]
  have HP : Hid (∀ w', Below w.heap.size w w' → RNdPost ⟨n, f, dmin, dmax, rho, slew, round, window, attend, seen, hist, fly, quota, body⟩ L id w (.returned (.tuple #[.pointer none, .int .i64 17])) w') := fun w' h => rndPost_bad HE.out (by decide) h
  have HX := Lib.hid (And.intro h1 h2)
  clear h1 h2
  have CE := Lib.hid (fun W => refEnough ⟨n, f, dmin, dmax, rho, slew, round, window, attend, seen, hist, fly, quota, body⟩ A l k W)
  have CG := fun (W : World) (hW : Below w.heap.size w W) => rNew n A k L hl hm W (hA.below hW)
  unfold RNewPost at CG
  have CG := Lib.hid CG
  have k0 := boxF_made w [.int .i64 n, .slice A l k, .int .i64 f, .int .i64 dmin, .int .i64 dmax, .int .i64 rho, .int .i64 slew, .int .i64 round, .int .i64 window, .int .i64 attend, .int .i64 seen, .int .i64 hist, .int .i64 fly, .int .i64 quota, .int .i64 body] 24
  have k1 := (Below.refl w.heap.size w).alloc (Nat.le_refl _) (.cells #[.int .i64 n, .slice A l k, .int .i64 f, .int .i64 dmin, .int .i64 dmax, .int .i64 rho, .int .i64 slew, .int .i64 round, .int .i64 window, .int .i64 attend, .int .i64 seen, .int .i64 hist, .int .i64 fly, .int .i64 quota, .int .i64 body] 24)
  obtain ⟨w1, hw1⟩ : ∃ w1, w.alloc (.cells #[.int .i64 n, .slice A l k, .int .i64 f, .int .i64 dmin, .int .i64 dmax, .int .i64 rho, .int .i64 slew, .int .i64 round, .int .i64 window, .int .i64 attend, .int .i64 seen, .int .i64 hist, .int .i64 fly, .int .i64 quota, .int .i64 body] 24) = w1 := ⟨_, rfl⟩
  have hs1 : w1.heap.size = w.heap.size + 1 := by rw [← hw1]; simp
  rw [hw1] at k0 k1
  have kc0 := k0.1 0 _ rfl
  have kc1 := k0.1 1 _ rfl
  have kc2 := k0.1 2 _ rfl
  have kc3 := k0.1 3 _ rfl
  have kc4 := k0.1 4 _ rfl
  have kc5 := k0.1 5 _ rfl
  have kc6 := k0.1 6 _ rfl
  have kc7 := k0.1 7 _ rfl
  have kc8 := k0.1 8 _ rfl
  have kc9 := k0.1 9 _ rfl
  have kc10 := k0.1 10 _ rfl
  have kc11 := k0.1 11 _ rfl
  have kc12 := k0.1 12 _ rfl
  have kc13 := k0.1 13 _ rfl
  have kc14 := k0.1 14 _ rfl
  have H1 := Lib.hid (And.intro k0 (And.intro k1 hs1))
  have C1 := Lib.hid (CG.out w1 k1)
  have HLL := Lib.hid hl
  clear k0 k1 hs1 hA hm hl
  go_enter Tryz.func5, Tryz.ntmps5
  go_wp2_with fail
  refine C1.out.mono ?_
  rintro e w2 ⟨hb2, hok, hbad⟩
  obtain ⟨A2, k2, rfl, hA2, hk2⟩ := hok HX.out.1
  rw [HLL.out]
  have g3 := boxF_made w2 [.int .i64 n, .slice A2 l k2] 88
  have b3 := (Below.refl w2.heap.size w2).alloc (Nat.le_refl _) (.cells #[.int .i64 n, .slice A2 l k2] 88)
  obtain ⟨w3, hw3⟩ : ∃ w3, w2.alloc (.cells #[.int .i64 n, .slice A2 l k2] 88) = w3 := ⟨_, rfl⟩
  have hs3 : w3.heap.size = w2.heap.size + 1 := by rw [← hw3]; simp
  rw [hw3] at b3
  rw [show w2.alloc (.cells [.int .i64 n, .slice A2 l k2].toArray 88) = w3 from hw3] at g3
  have b23 := hb2.trans (b3.mono hb2.size)
  have c3 := H1.out.1.keep b23
  have hB3 := H1.out.2.1.trans (b23.mono H1.out.2.1.size)
  have kd0 := c3.1 0 _ rfl
  have kd1 := c3.1 1 _ rfl
  have kd2 := c3.1 2 _ rfl
  have kd3 := c3.1 3 _ rfl
  have kd4 := c3.1 4 _ rfl
  have kd5 := c3.1 5 _ rfl
  have kd6 := c3.1 6 _ rfl
  have kd7 := c3.1 7 _ rfl
  have kd8 := c3.1 8 _ rfl
  have kd9 := c3.1 9 _ rfl
  have kd10 := c3.1 10 _ rfl
  have kd11 := c3.1 11 _ rfl
  have kd12 := c3.1 12 _ rfl
  have kd13 := c3.1 13 _ rfl
  have kd14 := c3.1 14 _ rfl
  have hs2 := hb2.size
  have H3 := Lib.hid (And.intro hB3 (And.intro c3 (And.intro g3 (And.intro (hA2.below b3) (And.intro hs3 hs2)))))
  clear hb2 hok hbad b3 b23 c3 hB3 g3 hs3 hs2 hA2 kc0 kc1 kc2 kc3 kc4 kc5 kc6 kc7 kc8 kc9 kc10 kc11 kc12 kc13 kc14
  go_wp2_with fail
  refine (CE.out _).mono ?_
  rintro e w5 ⟨rfl, hb5⟩
  rw [HX.out.2]
  have HF := Lib.hid (HP.out w5 (H3.out.1.trans (hb5.mono H3.out.1.size)))
  have c5 := H3.out.2.1.keep hb5
  have kf0 := c5.1 0 _ rfl
  have kf1 := c5.1 1 _ rfl
  have kf2 := c5.1 2 _ rfl
  have kf3 := c5.1 3 _ rfl
  have kf4 := c5.1 4 _ rfl
  have kf5 := c5.1 5 _ rfl
  have kf6 := c5.1 6 _ rfl
  have kf7 := c5.1 7 _ rfl
  have kf8 := c5.1 8 _ rfl
  have kf9 := c5.1 9 _ rfl
  have kf10 := c5.1 10 _ rfl
  have kf11 := c5.1 11 _ rfl
  have kf12 := c5.1 12 _ rfl
  have kf13 := c5.1 13 _ rfl
  have kf14 := c5.1 14 _ rfl
  clear hb5 c5
  go_wp2
  go_ret2
  exact HF.out
set_option maxHeartbeats 6400000 in
theorem rNodeD (c : Cn) (A : Option Addr) (l k : Nat) (L : List Pr) (hl : L.length = l) (hm : l ≤ 4000000000) (id hard : Int) (w : World) (hA : LinksAt w A L) (h1 : gErr c.n L = 0) (h2 : enoughB c = true) (h3 : ¬ c.f < 0) (h4 : id < 0 ∨ (0 ≤ id ∧ c.n ≤ id)) :
    Calls Tryz.prog 5 #[.agg (c.cells A l k).toArray, .int .i64 id, .int .i64 hard] w (RNdPost c L id w) := by
  obtain ⟨n, f, dmin, dmax, rho, slew, round, window, attend, seen, hist, fly, quota, body⟩ := c
  replace h1 : gErr n L = 0 := h1
  replace h3 : ¬ f < 0 := h3
  replace h4 : id < 0 ∨ (0 ≤ id ∧ n ≤ id) := h4
  have H4 := Lib.hid h4
  have HE : Hid (newErr ⟨n, f, dmin, dmax, rho, slew, round, window, attend, seen, hist, fly, quota, body⟩ L id = 8) := by unfold Hid newErr; rw [if_neg (fun h => h.elim (fun h => h h1) (fun h => h.elim (fun h => by rw [h2] at h; cases h) h3)), if_pos (h4.imp_right (·.2))]
  have HP : Hid (∀ w', Below w.heap.size w w' → RNdPost ⟨n, f, dmin, dmax, rho, slew, round, window, attend, seen, hist, fly, quota, body⟩ L id w (.returned (.tuple #[.pointer none, .int .i64 8])) w') := fun w' h => rndPost_bad HE.out (by decide) h
  have HX := Lib.hid (And.intro h1 h2)
  clear h1 h2
  have CE := Lib.hid (fun W => refEnough ⟨n, f, dmin, dmax, rho, slew, round, window, attend, seen, hist, fly, quota, body⟩ A l k W)
  have CG := fun (W : World) (hW : Below w.heap.size w W) => rNew n A k L hl hm W (hA.below hW)
  unfold RNewPost at CG
  have CG := Lib.hid CG
  have k0 := boxF_made w [.int .i64 n, .slice A l k, .int .i64 f, .int .i64 dmin, .int .i64 dmax, .int .i64 rho, .int .i64 slew, .int .i64 round, .int .i64 window, .int .i64 attend, .int .i64 seen, .int .i64 hist, .int .i64 fly, .int .i64 quota, .int .i64 body] 24
  have k1 := (Below.refl w.heap.size w).alloc (Nat.le_refl _) (.cells #[.int .i64 n, .slice A l k, .int .i64 f, .int .i64 dmin, .int .i64 dmax, .int .i64 rho, .int .i64 slew, .int .i64 round, .int .i64 window, .int .i64 attend, .int .i64 seen, .int .i64 hist, .int .i64 fly, .int .i64 quota, .int .i64 body] 24)
  obtain ⟨w1, hw1⟩ : ∃ w1, w.alloc (.cells #[.int .i64 n, .slice A l k, .int .i64 f, .int .i64 dmin, .int .i64 dmax, .int .i64 rho, .int .i64 slew, .int .i64 round, .int .i64 window, .int .i64 attend, .int .i64 seen, .int .i64 hist, .int .i64 fly, .int .i64 quota, .int .i64 body] 24) = w1 := ⟨_, rfl⟩
  have hs1 : w1.heap.size = w.heap.size + 1 := by rw [← hw1]; simp
  rw [hw1] at k0 k1
  have kc0 := k0.1 0 _ rfl
  have kc1 := k0.1 1 _ rfl
  have kc2 := k0.1 2 _ rfl
  have kc3 := k0.1 3 _ rfl
  have kc4 := k0.1 4 _ rfl
  have kc5 := k0.1 5 _ rfl
  have kc6 := k0.1 6 _ rfl
  have kc7 := k0.1 7 _ rfl
  have kc8 := k0.1 8 _ rfl
  have kc9 := k0.1 9 _ rfl
  have kc10 := k0.1 10 _ rfl
  have kc11 := k0.1 11 _ rfl
  have kc12 := k0.1 12 _ rfl
  have kc13 := k0.1 13 _ rfl
  have kc14 := k0.1 14 _ rfl
  have H1 := Lib.hid (And.intro k0 (And.intro k1 hs1))
  have C1 := Lib.hid (CG.out w1 k1)
  have HLL := Lib.hid hl
  clear k0 k1 hs1 hA hm hl
  go_enter Tryz.func5, Tryz.ntmps5
  go_wp2_with fail
  refine C1.out.mono ?_
  rintro e w2 ⟨hb2, hok, hbad⟩
  obtain ⟨A2, k2, rfl, hA2, hk2⟩ := hok HX.out.1
  rw [HLL.out]
  have g3 := boxF_made w2 [.int .i64 n, .slice A2 l k2] 88
  have b3 := (Below.refl w2.heap.size w2).alloc (Nat.le_refl _) (.cells #[.int .i64 n, .slice A2 l k2] 88)
  obtain ⟨w3, hw3⟩ : ∃ w3, w2.alloc (.cells #[.int .i64 n, .slice A2 l k2] 88) = w3 := ⟨_, rfl⟩
  have hs3 : w3.heap.size = w2.heap.size + 1 := by rw [← hw3]; simp
  rw [hw3] at b3
  rw [show w2.alloc (.cells [.int .i64 n, .slice A2 l k2].toArray 88) = w3 from hw3] at g3
  have b23 := hb2.trans (b3.mono hb2.size)
  have c3 := H1.out.1.keep b23
  have hB3 := H1.out.2.1.trans (b23.mono H1.out.2.1.size)
  have kd0 := c3.1 0 _ rfl
  have kd1 := c3.1 1 _ rfl
  have kd2 := c3.1 2 _ rfl
  have kd3 := c3.1 3 _ rfl
  have kd4 := c3.1 4 _ rfl
  have kd5 := c3.1 5 _ rfl
  have kd6 := c3.1 6 _ rfl
  have kd7 := c3.1 7 _ rfl
  have kd8 := c3.1 8 _ rfl
  have kd9 := c3.1 9 _ rfl
  have kd10 := c3.1 10 _ rfl
  have kd11 := c3.1 11 _ rfl
  have kd12 := c3.1 12 _ rfl
  have kd13 := c3.1 13 _ rfl
  have kd14 := c3.1 14 _ rfl
  have hs2 := hb2.size
  have H3 := Lib.hid (And.intro hB3 (And.intro c3 (And.intro g3 (And.intro (hA2.below b3) (And.intro hs3 hs2)))))
  clear hb2 hok hbad b3 b23 c3 hB3 g3 hs3 hs2 hA2 kc0 kc1 kc2 kc3 kc4 kc5 kc6 kc7 kc8 kc9 kc10 kc11 kc12 kc13 kc14
  go_wp2_with fail
  refine (CE.out _).mono ?_
  rintro e w5 ⟨rfl, hb5⟩
  rw [HX.out.2]
  have HF := Lib.hid (HP.out w5 (H3.out.1.trans (hb5.mono H3.out.1.size)))
  clear h4
  have c5 := H3.out.2.1.keep hb5
  have kf0 := c5.1 0 _ rfl
  have kf1 := c5.1 1 _ rfl
  have kf2 := c5.1 2 _ rfl
  have kf3 := c5.1 3 _ rfl
  have kf4 := c5.1 4 _ rfl
  have kf5 := c5.1 5 _ rfl
  have kf6 := c5.1 6 _ rfl
  have kf7 := c5.1 7 _ rfl
  have kf8 := c5.1 8 _ rfl
  have kf9 := c5.1 9 _ rfl
  have kf10 := c5.1 10 _ rfl
  have kf11 := c5.1 11 _ rfl
  have kf12 := c5.1 12 _ rfl
  have kf13 := c5.1 13 _ rfl
  have kf14 := c5.1 14 _ rfl
  clear hb5 c5
  rcases H4.out with h4 | ⟨h4, h5⟩
  · go_wp2
    go_ret2
    exact HF.out
  · have h4' : ¬ id < 0 := by omega
    go_wp2
    go_ret2
    exact HF.out
end Go.Proofs.YtfkfheddhnjaaaaGreat
