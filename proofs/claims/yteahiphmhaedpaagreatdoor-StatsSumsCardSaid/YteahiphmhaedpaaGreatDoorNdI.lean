/- node.New: a node is made, or it is told what is wrong. -/
import Derived.Test.YteahiphmhaedpaaGreatDoorNdH
import Derived.Test.YteahiphmhaedpaaGreatDoorCfE
import Derived.Test.YteahiphmhaedpaaGreatDoorGrB
namespace Go.Proofs.YteahiphmhaedpaaGreatDoor
open Go.RowKit Law
set_option linter.unusedVariables false
set_option linter.unusedSimpArgs false
set_option maxRecDepth 100000

/-- A ledger of nothing, its cells. -/
def ledZ : List Value := .int .i64 0 :: .int .u64 0 :: List.replicate 64 (.int .u32 0)
def newErr (c : Cn) (L : List Pr) (id : Int) : Nat := if gErr c.n L ≠ 0 ∨ enoughB c = false ∨ c.f < 0 then 17 else if id < 0 ∨ c.n ≤ id then 8 else 0
def nv0 (id hard : Int) (near : Nat) : NV := ⟨id, near, clampI hard 0 1152921504606846976, .pointer none, false, -1, 0, 0, 0, 0, 0, ledZ, false, 0, List.replicate 20 0, .slice none 0 0⟩
def ns0 : NS := ⟨0, 0, 0, 0, 0, -1, 0, .slice none 0 0⟩
def NdPost (c : Cn) (L : List Pr) (id hard : Int) (w : World) (e : Ending) (w' : World) : Prop := Below w.heap.size w w' ∧
  (newErr c L id = 0 → ∃ b, e = .returned (.tuple #[.pointer (some ⟨b.N, 0, none⟩), .int .i64 0]) ∧ NodeAt w' w.heap.size b c (nv0 id hard ((nearL c.n.toNat L).getD id.toNat 0)) ns0) ∧
  (newErr c L id ≠ 0 → e = .returned (.tuple #[.pointer none, .int .i64 (newErr c L id : Int)]))
theorem ofAny (c : Cn) (A : Option Addr) (l k : Nat) (w : World) : Calls Tryz.prog 44 #[.agg (c.cells A l k).toArray] w fun e w' => (∃ (b : Bn) (x : Int), e = .returned (.tuple #[.agg b.cells.toArray, .int .i64 x]) ∧ (goodC c = true → b = bnOf c)) ∧ Below w.heap.size w w' := by
  cases hg : goodC c
  · exact (boundOfBad c hg A l k w).mono fun _ _ h => ⟨⟨⟨0, 0, 0, 0, 0, 0, 0, 0, 0, 0, 0, 0, 0, 0⟩, 17, h.1, fun h => by cases h⟩, h.2⟩
  · exact (boundOf c hg A l k w).mono fun _ _ h => ⟨⟨bnOf c, 0, h.1, fun _ => rfl⟩, h.2⟩
def ndZ (n f dmin dmax rho slew round window attend seen hist fly quota body b0 b1 b2 b3 b4 b5 b6 b7 b8 b9 b10 b11 b12 b13 id pe pd nr : Int) (sr : Nat) : List Value := [.int .i64 n, .slice none 0 0, .int .i64 f, .int .i64 dmin, .int .i64 dmax, .int .i64 rho, .int .i64 slew, .int .i64 round, .int .i64 window, .int .i64 attend, .int .i64 seen, .int .i64 hist, .int .i64 fly, .int .i64 quota, .int .i64 body, .int .i64 b0, .int .i64 b1, .int .i64 b2, .int .i64 b3, .int .i64 b4, .int .i64 b5, .int .i64 b6, .int .i64 b7, .int .i64 b8, .int .i64 b9, .int .i64 b10, .int .i64 b11, .int .i64 b12, .int .i64 b13, .int .i64 id, .int .u64 nr, .int .i64 pe, .int .i64 pd, .pointer (some ⟨sr, 0, none⟩)] ++ ([.int .i64 0, .pointer none, .pointer none, .bool false, .int .i64 0, .int .i64 0, .pointer none, .pointer none, .pointer none, .pointer none, .pointer none, .pointer none, .int .u64 0, .int .i64 0, .int .i64 0, .int .i64 0, .pointer none] ++ (ledZ ++ ([.bool false, .int .i64 0, .pointer none] ++ (List.replicate 20 (.int .i64 0) ++ [.slice none 0 0]))))
theorem ndZ_eq (n f dmin dmax rho slew round window attend seen hist fly quota body b0 b1 b2 b3 b4 b5 b6 b7 b8 b9 b10 b11 b12 b13 id pe pd nr : Int) (sr : Nat) : ((((((((((((((((((((((((((((((((((Tryz.zeroCells157.setIfInBounds 0 (.int .i64 n)).setIfInBounds 1 (.slice none 0 0)).setIfInBounds 2 (.int .i64 f)).setIfInBounds 3 (.int .i64 dmin)).setIfInBounds 4 (.int .i64 dmax)).setIfInBounds 5 (.int .i64 rho)).setIfInBounds 6 (.int .i64 slew)).setIfInBounds 7 (.int .i64 round)).setIfInBounds 8 (.int .i64 window)).setIfInBounds 9 (.int .i64 attend)).setIfInBounds 10 (.int .i64 seen)).setIfInBounds 11 (.int .i64 hist)).setIfInBounds 12 (.int .i64 fly)).setIfInBounds 13 (.int .i64 quota)).setIfInBounds 14 (.int .i64 body)).setIfInBounds 15 (.int .i64 b0)).setIfInBounds 16 (.int .i64 b1)).setIfInBounds 17 (.int .i64 b2)).setIfInBounds 18 (.int .i64 b3)).setIfInBounds 19 (.int .i64 b4)).setIfInBounds 20 (.int .i64 b5)).setIfInBounds 21 (.int .i64 b6)).setIfInBounds 22 (.int .i64 b7)).setIfInBounds 23 (.int .i64 b8)).setIfInBounds 24 (.int .i64 b9)).setIfInBounds 25 (.int .i64 b10)).setIfInBounds 26 (.int .i64 b11)).setIfInBounds 27 (.int .i64 b12)).setIfInBounds 28 (.int .i64 b13)).setIfInBounds 29 (.int .i64 id)).setIfInBounds 30 (.int .u64 nr)).setIfInBounds 31 (.int .i64 pe)).setIfInBounds 32 (.int .i64 pd)).setIfInBounds 33 (.pointer (some ⟨sr, 0, none⟩))) = (ndZ n f dmin dmax rho slew round window attend seen hist fly quota body b0 b1 b2 b3 b4 b5 b6 b7 b8 b9 b10 b11 b12 b13 id pe pd nr sr).toArray := by kernel_rfl
theorem ndPost_bad {c : Cn} {L : List Pr} {id hard : Int} {w w' : World} {x : Nat} (h : newErr c L id = x) (hx : x ≠ 0) (hb : Below w.heap.size w w') : NdPost c L id hard w (.returned (.tuple #[.pointer none, .int .i64 (x : Int)])) w' :=
  ⟨hb, fun h0 => absurd (h.symm.trans h0) hx, fun _ => by rw [h]⟩
set_option maxHeartbeats 6400000 in
theorem nodeNewA (c : Cn) (A : Option Addr) (l k : Nat) (L : List Pr) (hl : L.length = l) (hfit : ∀ x ∈ L, PrF x) (hm : l ≤ 9223372036854775807) (id hard : Int) (w : World) (hA : LinksAt w A L) (h1 : gErr c.n L ≠ 0) :
    Calls Tryz.prog 20 #[.agg (c.cells A l k).toArray, .int .i64 id, .int .i64 hard] w (NdPost c L id hard w) := by
  obtain ⟨n, f, dmin, dmax, rho, slew, round, window, attend, seen, hist, fly, quota, body⟩ := c
  replace h1 : gErr n L ≠ 0 := h1
  obtain ⟨x, hx⟩ : ∃ x, gErr n L = x := ⟨_, rfl⟩
  have HE : Hid (newErr ⟨n, f, dmin, dmax, rho, slew, round, window, attend, seen, hist, fly, quota, body⟩ L id = 17) := by unfold Hid newErr; rw [if_pos (.inl h1)]
  have HP : Hid (∀ w', Below w.heap.size w w' → NdPost ⟨n, f, dmin, dmax, rho, slew, round, window, attend, seen, hist, fly, quota, body⟩ L id hard w (.returned (.tuple #[.pointer none, .int .i64 17])) w') := fun w' h => ndPost_bad HE.out (by decide) h
  have HX := Lib.hid (And.intro hx h1)
  clear hx h1
  have CO := Lib.hid (fun W => ofAny ⟨n, f, dmin, dmax, rho, slew, round, window, attend, seen, hist, fly, quota, body⟩ A l k W)
  have CE := Lib.hid (fun W => boundEnough ⟨n, f, dmin, dmax, rho, slew, round, window, attend, seen, hist, fly, quota, body⟩ A l k W)
  have CG := fun (W : World) (hW : Below w.heap.size w W) => grNew n A k L hl hfit hm W (hA.below hW)
  unfold NewPost at CG
  have CG := Lib.hid CG
  have k0 := boxF_made w [.int .i64 n, .slice A l k, .int .i64 f, .int .i64 dmin, .int .i64 dmax, .int .i64 rho, .int .i64 slew, .int .i64 round, .int .i64 window, .int .i64 attend, .int .i64 seen, .int .i64 hist, .int .i64 fly, .int .i64 quota, .int .i64 body] 32
  have k1 := (Below.refl w.heap.size w).alloc (Nat.le_refl _) (.cells #[.int .i64 n, .slice A l k, .int .i64 f, .int .i64 dmin, .int .i64 dmax, .int .i64 rho, .int .i64 slew, .int .i64 round, .int .i64 window, .int .i64 attend, .int .i64 seen, .int .i64 hist, .int .i64 fly, .int .i64 quota, .int .i64 body] 32)
  obtain ⟨w1, hw1⟩ : ∃ w1, w.alloc (.cells #[.int .i64 n, .slice A l k, .int .i64 f, .int .i64 dmin, .int .i64 dmax, .int .i64 rho, .int .i64 slew, .int .i64 round, .int .i64 window, .int .i64 attend, .int .i64 seen, .int .i64 hist, .int .i64 fly, .int .i64 quota, .int .i64 body] 32) = w1 := ⟨_, rfl⟩
  have hs1 : w1.heap.size = w.heap.size + 1 := by rw [← hw1]; simp
  rw [hw1] at k0 k1
  have kc0 := k0.1 0 _ rfl
  have kc1 := k0.1 1 _ rfl
  have kc2 := k0.1 2 _ rfl
  have kc3 := k0.1 3 _ rfl
  have kc4 := k0.1 4 _ rfl
  have kc5 := k0.1 5 _ rfl
  have kc6 := k0.1 6 _ rfl
  have kc7 := k0.1 7 _ rfl
  have kc8 := k0.1 8 _ rfl
  have kc9 := k0.1 9 _ rfl
  have kc10 := k0.1 10 _ rfl
  have kc11 := k0.1 11 _ rfl
  have kc12 := k0.1 12 _ rfl
  have kc13 := k0.1 13 _ rfl
  have kc14 := k0.1 14 _ rfl
  have H1 := Lib.hid (And.intro k0 (And.intro k1 hs1))
  clear k0 k1 hs1 hA hfit hm hl
  go_enter Tryz.func20, Tryz.ntmps20
  go_wp2_with fail
  refine (CO.out _).mono ?_
  rintro e w2 ⟨⟨⟨b0, b1, b2, b3, b4, b5, b6, b7, b8, b9, b10, b11, b12, b13⟩, ex, rfl, hbn⟩, hb2⟩
  have HBN := Lib.hid hbn
  have q3 := (Below.refl w2.heap.size w2).alloc (Nat.le_refl _) (.cells #[.int .i64 b0, .int .i64 b1, .int .i64 b2, .int .i64 b3, .int .i64 b4, .int .i64 b5, .int .i64 b6, .int .i64 b7, .int .i64 b8, .int .i64 b9, .int .i64 b10, .int .i64 b11, .int .i64 b12, .int .i64 b13] 101)
  have p3 := boxF_made w2 [.int .i64 b0, .int .i64 b1, .int .i64 b2, .int .i64 b3, .int .i64 b4, .int .i64 b5, .int .i64 b6, .int .i64 b7, .int .i64 b8, .int .i64 b9, .int .i64 b10, .int .i64 b11, .int .i64 b12, .int .i64 b13] 101
  have c3 := (H1.out.1.keep hb2).keep q3
  have hs2 := hb2.size
  obtain ⟨w3, hw3⟩ : ∃ w3, w2.alloc (.cells #[.int .i64 b0, .int .i64 b1, .int .i64 b2, .int .i64 b3, .int .i64 b4, .int .i64 b5, .int .i64 b6, .int .i64 b7, .int .i64 b8, .int .i64 b9, .int .i64 b10, .int .i64 b11, .int .i64 b12, .int .i64 b13] 101) = w3 := ⟨_, rfl⟩
  have hs3 : w3.heap.size = w2.heap.size + 1 := by rw [← hw3]; simp
  rw [hw3] at q3 p3 c3
  have hB2 := H1.out.2.1.trans (hb2.mono H1.out.2.1.size)
  have hB3 := hB2.trans (q3.mono hB2.size)
  have kd0 := c3.1 0 _ rfl
  have kd1 := c3.1 1 _ rfl
  have kd2 := c3.1 2 _ rfl
  have kd3 := c3.1 3 _ rfl
  have kd4 := c3.1 4 _ rfl
  have kd5 := c3.1 5 _ rfl
  have kd6 := c3.1 6 _ rfl
  have kd7 := c3.1 7 _ rfl
  have kd8 := c3.1 8 _ rfl
  have kd9 := c3.1 9 _ rfl
  have kd10 := c3.1 10 _ rfl
  have kd11 := c3.1 11 _ rfl
  have kd12 := c3.1 12 _ rfl
  have kd13 := c3.1 13 _ rfl
  have kd14 := c3.1 14 _ rfl
  have C4 := Lib.hid (CG.out w3 hB3)
  have H3 := Lib.hid (And.intro hB3 (And.intro c3 (And.intro p3 (And.intro hs3 hs2))))
  have hsw : w.heap.size < w2.heap.size := by have := H1.out.2.2; omega
  clear hb2 q3 p3 c3 hs3 hB2 hB3 hs2 hbn kc0 kc1 kc2 kc3 kc4 kc5 kc6 kc7 kc8 kc9 kc10 kc11 kc12 kc13 kc14
  simp only [Bn.cells]
  go_wp2_with fail
  refine C4.out.mono ?_
  rintro e w4 ⟨hb4, hok, hbad⟩
  obtain rfl := hbad HX.out.2
  have HF := Lib.hid (HP.out w4 (H3.out.1.trans (hb4.mono H3.out.1.size)))
  rw [HX.out.1]
  have hx2 := HX.out.2
  rw [HX.out.1] at hx2
  obtain ⟨y, hy⟩ : ∃ y : Int, (x : Int) = y := ⟨_, rfl⟩
  have hy1 : ¬ y = 0 := by omega
  have hy0 : (y == 0) = false := by rw [beq_eq_false_iff_ne]; exact hy1
  rw [hy]
  clear hb4 hok hbad hy hx2
  go_wp2
  go_ret2
  exact HF.out
set_option maxHeartbeats 6400000 in
theorem nodeNewB (c : Cn) (A : Option Addr) (l k : Nat) (L : List Pr) (hl : L.length = l) (hfit : ∀ x ∈ L, PrF x) (hm : l ≤ 9223372036854775807) (id hard : Int) (w : World) (hA : LinksAt w A L) (h1 : gErr c.n L = 0) (h2 : enoughB c = false) :
    Calls Tryz.prog 20 #[.agg (c.cells A l k).toArray, .int .i64 id, .int .i64 hard] w (NdPost c L id hard w) := by
  obtain ⟨n, f, dmin, dmax, rho, slew, round, window, attend, seen, hist, fly, quota, body⟩ := c
  replace h1 : gErr n L = 0 := h1
  have HE : Hid (newErr ⟨n, f, dmin, dmax, rho, slew, round, window, attend, seen, hist, fly, quota, body⟩ L id = 17) := by unfold Hid newErr; rw [if_pos (.inr (.inl h2))]
  have HP : Hid (∀ w', Below w.heap.size w w' → NdPost ⟨n, f, dmin, dmax, rho, slew, round, window, attend, seen, hist, fly, quota, body⟩ L id hard w (.returned (.tuple #[.pointer none, .int .i64 17])) w') := fun w' h => ndPost_bad HE.out (by decide) h
  have HX := Lib.hid (And.intro h1 h2)
  clear h1 h2
  have CO := Lib.hid (fun W => ofAny ⟨n, f, dmin, dmax, rho, slew, round, window, attend, seen, hist, fly, quota, body⟩ A l k W)
  have CE := Lib.hid (fun W => boundEnough ⟨n, f, dmin, dmax, rho, slew, round, window, attend, seen, hist, fly, quota, body⟩ A l k W)
  have CG := fun (W : World) (hW : Below w.heap.size w W) => grNew n A k L hl hfit hm W (hA.below hW)
  unfold NewPost at CG
  have CG := Lib.hid CG
  have k0 := boxF_made w [.int .i64 n, .slice A l k, .int .i64 f, .int .i64 dmin, .int .i64 dmax, .int .i64 rho, .int .i64 slew, .int .i64 round, .int .i64 window, .int .i64 attend, .int .i64 seen, .int .i64 hist, .int .i64 fly, .int .i64 quota, .int .i64 body] 32
  have k1 := (Below.refl w.heap.size w).alloc (Nat.le_refl _) (.cells #[.int .i64 n, .slice A l k, .int .i64 f, .int .i64 dmin, .int .i64 dmax, .int .i64 rho, .int .i64 slew, .int .i64 round, .int .i64 window, .int .i64 attend, .int .i64 seen, .int .i64 hist, .int .i64 fly, .int .i64 quota, .int .i64 body] 32)
  obtain ⟨w1, hw1⟩ : ∃ w1, w.alloc (.cells #[.int .i64 n, .slice A l k, .int .i64 f, .int .i64 dmin, .int .i64 dmax, .int .i64 rho, .int .i64 slew, .int .i64 round, .int .i64 window, .int .i64 attend, .int .i64 seen, .int .i64 hist, .int .i64 fly, .int .i64 quota, .int .i64 body] 32) = w1 := ⟨_, rfl⟩
  have hs1 : w1.heap.size = w.heap.size + 1 := by rw [← hw1]; simp
  rw [hw1] at k0 k1
  have kc0 := k0.1 0 _ rfl
  have kc1 := k0.1 1 _ rfl
  have kc2 := k0.1 2 _ rfl
  have kc3 := k0.1 3 _ rfl
  have kc4 := k0.1 4 _ rfl
  have kc5 := k0.1 5 _ rfl
  have kc6 := k0.1 6 _ rfl
  have kc7 := k0.1 7 _ rfl
  have kc8 := k0.1 8 _ rfl
  have kc9 := k0.1 9 _ rfl
  have kc10 := k0.1 10 _ rfl
  have kc11 := k0.1 11 _ rfl
  have kc12 := k0.1 12 _ rfl
  have kc13 := k0.1 13 _ rfl
  have kc14 := k0.1 14 _ rfl
  have H1 := Lib.hid (And.intro k0 (And.intro k1 hs1))
  clear k0 k1 hs1 hA hfit hm hl
  go_enter Tryz.func20, Tryz.ntmps20
  go_wp2_with fail
  refine (CO.out _).mono ?_
  rintro e w2 ⟨⟨⟨b0, b1, b2, b3, b4, b5, b6, b7, b8, b9, b10, b11, b12, b13⟩, ex, rfl, hbn⟩, hb2⟩
  have HBN := Lib.hid hbn
  have q3 := (Below.refl w2.heap.size w2).alloc (Nat.le_refl _) (.cells #[.int .i64 b0, .int .i64 b1, .int .i64 b2, .int .i64 b3, .int .i64 b4, .int .i64 b5, .int .i64 b6, .int .i64 b7, .int .i64 b8, .int .i64 b9, .int .i64 b10, .int .i64 b11, .int .i64 b12, .int .i64 b13] 101)
  have p3 := boxF_made w2 [.int .i64 b0, .int .i64 b1, .int .i64 b2, .int .i64 b3, .int .i64 b4, .int .i64 b5, .int .i64 b6, .int .i64 b7, .int .i64 b8, .int .i64 b9, .int .i64 b10, .int .i64 b11, .int .i64 b12, .int .i64 b13] 101
  have c3 := (H1.out.1.keep hb2).keep q3
  have hs2 := hb2.size
  obtain ⟨w3, hw3⟩ : ∃ w3, w2.alloc (.cells #[.int .i64 b0, .int .i64 b1, .int .i64 b2, .int .i64 b3, .int .i64 b4, .int .i64 b5, .int .i64 b6, .int .i64 b7, .int .i64 b8, .int .i64 b9, .int .i64 b10, .int .i64 b11, .int .i64 b12, .int .i64 b13] 101) = w3 := ⟨_, rfl⟩
  have hs3 : w3.heap.size = w2.heap.size + 1 := by rw [← hw3]; simp
  rw [hw3] at q3 p3 c3
  have hB2 := H1.out.2.1.trans (hb2.mono H1.out.2.1.size)
  have hB3 := hB2.trans (q3.mono hB2.size)
  have kd0 := c3.1 0 _ rfl
  have kd1 := c3.1 1 _ rfl
  have kd2 := c3.1 2 _ rfl
  have kd3 := c3.1 3 _ rfl
  have kd4 := c3.1 4 _ rfl
  have kd5 := c3.1 5 _ rfl
  have kd6 := c3.1 6 _ rfl
  have kd7 := c3.1 7 _ rfl
  have kd8 := c3.1 8 _ rfl
  have kd9 := c3.1 9 _ rfl
  have kd10 := c3.1 10 _ rfl
  have kd11 := c3.1 11 _ rfl
  have kd12 := c3.1 12 _ rfl
  have kd13 := c3.1 13 _ rfl
  have kd14 := c3.1 14 _ rfl
  have C4 := Lib.hid (CG.out w3 hB3)
  have H3 := Lib.hid (And.intro hB3 (And.intro c3 (And.intro p3 (And.intro hs3 hs2))))
  have hsw : w.heap.size < w2.heap.size := by have := H1.out.2.2; omega
  clear hb2 q3 p3 c3 hs3 hB2 hB3 hs2 hbn kc0 kc1 kc2 kc3 kc4 kc5 kc6 kc7 kc8 kc9 kc10 kc11 kc12 kc13 kc14
  simp only [Bn.cells]
  go_wp2_with fail
  refine C4.out.mono ?_
  rintro e w4 ⟨hb4, hok, hbad⟩
  obtain ⟨G, R, rfl, -⟩ := hok HX.out.1
  have c4 := H3.out.2.1.keep hb4
  have p4 := H3.out.2.2.1.keep hb4
  have hB4 := H3.out.1.trans (hb4.mono H3.out.1.size)
  have ke0 := c4.1 0 _ rfl
  have ke1 := c4.1 1 _ rfl
  have ke2 := c4.1 2 _ rfl
  have ke3 := c4.1 3 _ rfl
  have ke4 := c4.1 4 _ rfl
  have ke5 := c4.1 5 _ rfl
  have ke6 := c4.1 6 _ rfl
  have ke7 := c4.1 7 _ rfl
  have ke8 := c4.1 8 _ rfl
  have ke9 := c4.1 9 _ rfl
  have ke10 := c4.1 10 _ rfl
  have ke11 := c4.1 11 _ rfl
  have ke12 := c4.1 12 _ rfl
  have ke13 := c4.1 13 _ rfl
  have ke14 := c4.1 14 _ rfl
  have ye0 := p4.1 0 _ rfl
  have ye1 := p4.1 1 _ rfl
  have ye2 := p4.1 2 _ rfl
  have ye3 := p4.1 3 _ rfl
  have ye4 := p4.1 4 _ rfl
  have ye5 := p4.1 5 _ rfl
  have ye6 := p4.1 6 _ rfl
  have ye7 := p4.1 7 _ rfl
  have ye8 := p4.1 8 _ rfl
  have ye9 := p4.1 9 _ rfl
  have ye10 := p4.1 10 _ rfl
  have ye11 := p4.1 11 _ rfl
  have ye12 := p4.1 12 _ rfl
  have ye13 := p4.1 13 _ rfl
  have H4 := Lib.hid (And.intro hB4 (And.intro c4 p4))
  clear hb4 c4 p4 hB4 hbad kd0 kd1 kd2 kd3 kd4 kd5 kd6 kd7 kd8 kd9 kd10 kd11 kd12 kd13 kd14
  clear hok
  go_wp2_with fail
  refine (CE.out _).mono ?_
  rintro e w5 ⟨rfl, hb5⟩
  have HF := Lib.hid (HP.out w5 (H4.out.1.trans (hb5.mono H4.out.1.size)))
  rw [HX.out.2]
  clear hb5
  go_wp2
  go_ret2
  exact HF.out
set_option maxHeartbeats 6400000 in
theorem nodeNewC (c : Cn) (A : Option Addr) (l k : Nat) (L : List Pr) (hl : L.length = l) (hfit : ∀ x ∈ L, PrF x) (hm : l ≤ 9223372036854775807) (id hard : Int) (w : World) (hA : LinksAt w A L) (h1 : gErr c.n L = 0) (h2 : enoughB c = true) (h3 : c.f < 0) :
    Calls Tryz.prog 20 #[.agg (c.cells A l k).toArray, .int .i64 id, .int .i64 hard] w (NdPost c L id hard w) := by
  obtain ⟨n, f, dmin, dmax, rho, slew, round, window, attend, seen, hist, fly, quota, body⟩ := c
  replace h1 : gErr n L = 0 := h1
  replace h3 : f < 0 := h3
  have HE : Hid (newErr ⟨n, f, dmin, dmax, rho, slew, round, window, attend, seen, hist, fly, quota, body⟩ L id = 17) := by unfold Hid newErr; rw [if_pos (.inr (.inr h3))]
  have HP : Hid (∀ w', Below w.heap.size w w' → NdPost ⟨n, f, dmin, dmax, rho, slew, round, window, attend, seen, hist, fly, quota, body⟩ L id hard w (.returned (.tuple #[.pointer none, .int .i64 17])) w') := fun w' h => ndPost_bad HE.out (by decide) h
  have HX := Lib.hid (And.intro h1 h2)
  clear h1 h2
  have CO := Lib.hid (fun W => ofAny ⟨n, f, dmin, dmax, rho, slew, round, window, attend, seen, hist, fly, quota, body⟩ A l k W)
  have CE := Lib.hid (fun W => boundEnough ⟨n, f, dmin, dmax, rho, slew, round, window, attend, seen, hist, fly, quota, body⟩ A l k W)
  have CG := fun (W : World) (hW : Below w.heap.size w W) => grNew n A k L hl hfit hm W (hA.below hW)
  unfold NewPost at CG
  have CG := Lib.hid CG
  have k0 := boxF_made w [.int .i64 n, .slice A l k, .int .i64 f, .int .i64 dmin, .int .i64 dmax, .int .i64 rho, .int .i64 slew, .int .i64 round, .int .i64 window, .int .i64 attend, .int .i64 seen, .int .i64 hist, .int .i64 fly, .int .i64 quota, .int .i64 body] 32
  have k1 := (Below.refl w.heap.size w).alloc (Nat.le_refl _) (.cells #[.int .i64 n, .slice A l k, .int .i64 f, .int .i64 dmin, .int .i64 dmax, .int .i64 rho, .int .i64 slew, .int .i64 round, .int .i64 window, .int .i64 attend, .int .i64 seen, .int .i64 hist, .int .i64 fly, .int .i64 quota, .int .i64 body] 32)
  obtain ⟨w1, hw1⟩ : ∃ w1, w.alloc (.cells #[.int .i64 n, .slice A l k, .int .i64 f, .int .i64 dmin, .int .i64 dmax, .int .i64 rho, .int .i64 slew, .int .i64 round, .int .i64 window, .int .i64 attend, .int .i64 seen, .int .i64 hist, .int .i64 fly, .int .i64 quota, .int .i64 body] 32) = w1 := ⟨_, rfl⟩
  have hs1 : w1.heap.size = w.heap.size + 1 := by rw [← hw1]; simp
  rw [hw1] at k0 k1
  have kc0 := k0.1 0 _ rfl
  have kc1 := k0.1 1 _ rfl
  have kc2 := k0.1 2 _ rfl
  have kc3 := k0.1 3 _ rfl
  have kc4 := k0.1 4 _ rfl
  have kc5 := k0.1 5 _ rfl
  have kc6 := k0.1 6 _ rfl
  have kc7 := k0.1 7 _ rfl
  have kc8 := k0.1 8 _ rfl
  have kc9 := k0.1 9 _ rfl
  have kc10 := k0.1 10 _ rfl
  have kc11 := k0.1 11 _ rfl
  have kc12 := k0.1 12 _ rfl
  have kc13 := k0.1 13 _ rfl
  have kc14 := k0.1 14 _ rfl
  have H1 := Lib.hid (And.intro k0 (And.intro k1 hs1))
  clear k0 k1 hs1 hA hfit hm hl
  go_enter Tryz.func20, Tryz.ntmps20
  go_wp2_with fail
  refine (CO.out _).mono ?_
  rintro e w2 ⟨⟨⟨b0, b1, b2, b3, b4, b5, b6, b7, b8, b9, b10, b11, b12, b13⟩, ex, rfl, hbn⟩, hb2⟩
  have HBN := Lib.hid hbn
  have q3 := (Below.refl w2.heap.size w2).alloc (Nat.le_refl _) (.cells #[.int .i64 b0, .int .i64 b1, .int .i64 b2, .int .i64 b3, .int .i64 b4, .int .i64 b5, .int .i64 b6, .int .i64 b7, .int .i64 b8, .int .i64 b9, .int .i64 b10, .int .i64 b11, .int .i64 b12, .int .i64 b13] 101)
  have p3 := boxF_made w2 [.int .i64 b0, .int .i64 b1, .int .i64 b2, .int .i64 b3, .int .i64 b4, .int .i64 b5, .int .i64 b6, .int .i64 b7, .int .i64 b8, .int .i64 b9, .int .i64 b10, .int .i64 b11, .int .i64 b12, .int .i64 b13] 101
  have c3 := (H1.out.1.keep hb2).keep q3
  have hs2 := hb2.size
  obtain ⟨w3, hw3⟩ : ∃ w3, w2.alloc (.cells #[.int .i64 b0, .int .i64 b1, .int .i64 b2, .int .i64 b3, .int .i64 b4, .int .i64 b5, .int .i64 b6, .int .i64 b7, .int .i64 b8, .int .i64 b9, .int .i64 b10, .int .i64 b11, .int .i64 b12, .int .i64 b13] 101) = w3 := ⟨_, rfl⟩
  have hs3 : w3.heap.size = w2.heap.size + 1 := by rw [← hw3]; simp
  rw [hw3] at q3 p3 c3
  have hB2 := H1.out.2.1.trans (hb2.mono H1.out.2.1.size)
  have hB3 := hB2.trans (q3.mono hB2.size)
  have kd0 := c3.1 0 _ rfl
  have kd1 := c3.1 1 _ rfl
  have kd2 := c3.1 2 _ rfl
  have kd3 := c3.1 3 _ rfl
  have kd4 := c3.1 4 _ rfl
  have kd5 := c3.1 5 _ rfl
  have kd6 := c3.1 6 _ rfl
  have kd7 := c3.1 7 _ rfl
  have kd8 := c3.1 8 _ rfl
  have kd9 := c3.1 9 _ rfl
  have kd10 := c3.1 10 _ rfl
  have kd11 := c3.1 11 _ rfl
  have kd12 := c3.1 12 _ rfl
  have kd13 := c3.1 13 _ rfl
  have kd14 := c3.1 14 _ rfl
  have C4 := Lib.hid (CG.out w3 hB3)
  have H3 := Lib.hid (And.intro hB3 (And.intro c3 (And.intro p3 (And.intro hs3 hs2))))
  have hsw : w.heap.size < w2.heap.size := by have := H1.out.2.2; omega
  clear hb2 q3 p3 c3 hs3 hB2 hB3 hs2 hbn kc0 kc1 kc2 kc3 kc4 kc5 kc6 kc7 kc8 kc9 kc10 kc11 kc12 kc13 kc14
  simp only [Bn.cells]
  go_wp2_with fail
  refine C4.out.mono ?_
  rintro e w4 ⟨hb4, hok, hbad⟩
  obtain ⟨G, R, rfl, -⟩ := hok HX.out.1
  have c4 := H3.out.2.1.keep hb4
  have p4 := H3.out.2.2.1.keep hb4
  have hB4 := H3.out.1.trans (hb4.mono H3.out.1.size)
  have ke0 := c4.1 0 _ rfl
  have ke1 := c4.1 1 _ rfl
  have ke2 := c4.1 2 _ rfl
  have ke3 := c4.1 3 _ rfl
  have ke4 := c4.1 4 _ rfl
  have ke5 := c4.1 5 _ rfl
  have ke6 := c4.1 6 _ rfl
  have ke7 := c4.1 7 _ rfl
  have ke8 := c4.1 8 _ rfl
  have ke9 := c4.1 9 _ rfl
  have ke10 := c4.1 10 _ rfl
  have ke11 := c4.1 11 _ rfl
  have ke12 := c4.1 12 _ rfl
  have ke13 := c4.1 13 _ rfl
  have ke14 := c4.1 14 _ rfl
  have ye0 := p4.1 0 _ rfl
  have ye1 := p4.1 1 _ rfl
  have ye2 := p4.1 2 _ rfl
  have ye3 := p4.1 3 _ rfl
  have ye4 := p4.1 4 _ rfl
  have ye5 := p4.1 5 _ rfl
  have ye6 := p4.1 6 _ rfl
  have ye7 := p4.1 7 _ rfl
  have ye8 := p4.1 8 _ rfl
  have ye9 := p4.1 9 _ rfl
  have ye10 := p4.1 10 _ rfl
  have ye11 := p4.1 11 _ rfl
  have ye12 := p4.1 12 _ rfl
  have ye13 := p4.1 13 _ rfl
  have H4 := Lib.hid (And.intro hB4 (And.intro c4 p4))
  clear hb4 c4 p4 hB4 hbad kd0 kd1 kd2 kd3 kd4 kd5 kd6 kd7 kd8 kd9 kd10 kd11 kd12 kd13 kd14
  clear hok
  go_wp2_with fail
  refine (CE.out _).mono ?_
  rintro e w5 ⟨rfl, hb5⟩
  have HF := Lib.hid (HP.out w5 (H4.out.1.trans (hb5.mono H4.out.1.size)))
  have c5 := H4.out.2.1.keep hb5
  have kf0 := c5.1 0 _ rfl
  have kf1 := c5.1 1 _ rfl
  have kf2 := c5.1 2 _ rfl
  have kf3 := c5.1 3 _ rfl
  have kf4 := c5.1 4 _ rfl
  have kf5 := c5.1 5 _ rfl
  have kf6 := c5.1 6 _ rfl
  have kf7 := c5.1 7 _ rfl
  have kf8 := c5.1 8 _ rfl
  have kf9 := c5.1 9 _ rfl
  have kf10 := c5.1 10 _ rfl
  have kf11 := c5.1 11 _ rfl
  have kf12 := c5.1 12 _ rfl
  have kf13 := c5.1 13 _ rfl
  have kf14 := c5.1 14 _ rfl
  rw [HX.out.2]
  clear hb5 c5
  go_wp2
  go_ret2
  exact HF.out
set_option maxHeartbeats 6400000 in
theorem nodeNewD (c : Cn) (A : Option Addr) (l k : Nat) (L : List Pr) (hl : L.length = l) (hfit : ∀ x ∈ L, PrF x) (hm : l ≤ 9223372036854775807) (id hard : Int) (w : World) (hA : LinksAt w A L) (h1 : gErr c.n L = 0) (h2 : enoughB c = true) (h3 : ¬ c.f < 0) (h4 : id < 0 ∨ (0 ≤ id ∧ c.n ≤ id)) :
    Calls Tryz.prog 20 #[.agg (c.cells A l k).toArray, .int .i64 id, .int .i64 hard] w (NdPost c L id hard w) := by
  obtain ⟨n, f, dmin, dmax, rho, slew, round, window, attend, seen, hist, fly, quota, body⟩ := c
  replace h1 : gErr n L = 0 := h1
  replace h3 : ¬ f < 0 := h3
  replace h4 : id < 0 ∨ (0 ≤ id ∧ n ≤ id) := h4
  have HE : Hid (newErr ⟨n, f, dmin, dmax, rho, slew, round, window, attend, seen, hist, fly, quota, body⟩ L id = 8) := by unfold Hid newErr; rw [if_neg (fun h => h.elim (fun h => h h1) (fun h => h.elim (fun h => by rw [h2] at h; cases h) h3)), if_pos (h4.imp_right (·.2))]
  have HP : Hid (∀ w', Below w.heap.size w w' → NdPost ⟨n, f, dmin, dmax, rho, slew, round, window, attend, seen, hist, fly, quota, body⟩ L id hard w (.returned (.tuple #[.pointer none, .int .i64 8])) w') := fun w' h => ndPost_bad HE.out (by decide) h
  have HX := Lib.hid (And.intro h1 (And.intro h2 h4))
  clear h1 h2 h4
  have CO := Lib.hid (fun W => ofAny ⟨n, f, dmin, dmax, rho, slew, round, window, attend, seen, hist, fly, quota, body⟩ A l k W)
  have CE := Lib.hid (fun W => boundEnough ⟨n, f, dmin, dmax, rho, slew, round, window, attend, seen, hist, fly, quota, body⟩ A l k W)
  have CG := fun (W : World) (hW : Below w.heap.size w W) => grNew n A k L hl hfit hm W (hA.below hW)
  unfold NewPost at CG
  have CG := Lib.hid CG
  have k0 := boxF_made w [.int .i64 n, .slice A l k, .int .i64 f, .int .i64 dmin, .int .i64 dmax, .int .i64 rho, .int .i64 slew, .int .i64 round, .int .i64 window, .int .i64 attend, .int .i64 seen, .int .i64 hist, .int .i64 fly, .int .i64 quota, .int .i64 body] 32
  have k1 := (Below.refl w.heap.size w).alloc (Nat.le_refl _) (.cells #[.int .i64 n, .slice A l k, .int .i64 f, .int .i64 dmin, .int .i64 dmax, .int .i64 rho, .int .i64 slew, .int .i64 round, .int .i64 window, .int .i64 attend, .int .i64 seen, .int .i64 hist, .int .i64 fly, .int .i64 quota, .int .i64 body] 32)
  obtain ⟨w1, hw1⟩ : ∃ w1, w.alloc (.cells #[.int .i64 n, .slice A l k, .int .i64 f, .int .i64 dmin, .int .i64 dmax, .int .i64 rho, .int .i64 slew, .int .i64 round, .int .i64 window, .int .i64 attend, .int .i64 seen, .int .i64 hist, .int .i64 fly, .int .i64 quota, .int .i64 body] 32) = w1 := ⟨_, rfl⟩
  have hs1 : w1.heap.size = w.heap.size + 1 := by rw [← hw1]; simp
  rw [hw1] at k0 k1
  have kc0 := k0.1 0 _ rfl
  have kc1 := k0.1 1 _ rfl
  have kc2 := k0.1 2 _ rfl
  have kc3 := k0.1 3 _ rfl
  have kc4 := k0.1 4 _ rfl
  have kc5 := k0.1 5 _ rfl
  have kc6 := k0.1 6 _ rfl
  have kc7 := k0.1 7 _ rfl
  have kc8 := k0.1 8 _ rfl
  have kc9 := k0.1 9 _ rfl
  have kc10 := k0.1 10 _ rfl
  have kc11 := k0.1 11 _ rfl
  have kc12 := k0.1 12 _ rfl
  have kc13 := k0.1 13 _ rfl
  have kc14 := k0.1 14 _ rfl
  have H1 := Lib.hid (And.intro k0 (And.intro k1 hs1))
  clear k0 k1 hs1 hA hfit hm hl
  go_enter Tryz.func20, Tryz.ntmps20
  go_wp2_with fail
  refine (CO.out _).mono ?_
  rintro e w2 ⟨⟨⟨b0, b1, b2, b3, b4, b5, b6, b7, b8, b9, b10, b11, b12, b13⟩, ex, rfl, hbn⟩, hb2⟩
  have HBN := Lib.hid hbn
  have q3 := (Below.refl w2.heap.size w2).alloc (Nat.le_refl _) (.cells #[.int .i64 b0, .int .i64 b1, .int .i64 b2, .int .i64 b3, .int .i64 b4, .int .i64 b5, .int .i64 b6, .int .i64 b7, .int .i64 b8, .int .i64 b9, .int .i64 b10, .int .i64 b11, .int .i64 b12, .int .i64 b13] 101)
  have p3 := boxF_made w2 [.int .i64 b0, .int .i64 b1, .int .i64 b2, .int .i64 b3, .int .i64 b4, .int .i64 b5, .int .i64 b6, .int .i64 b7, .int .i64 b8, .int .i64 b9, .int .i64 b10, .int .i64 b11, .int .i64 b12, .int .i64 b13] 101
  have c3 := (H1.out.1.keep hb2).keep q3
  have hs2 := hb2.size
  obtain ⟨w3, hw3⟩ : ∃ w3, w2.alloc (.cells #[.int .i64 b0, .int .i64 b1, .int .i64 b2, .int .i64 b3, .int .i64 b4, .int .i64 b5, .int .i64 b6, .int .i64 b7, .int .i64 b8, .int .i64 b9, .int .i64 b10, .int .i64 b11, .int .i64 b12, .int .i64 b13] 101) = w3 := ⟨_, rfl⟩
  have hs3 : w3.heap.size = w2.heap.size + 1 := by rw [← hw3]; simp
  rw [hw3] at q3 p3 c3
  have hB2 := H1.out.2.1.trans (hb2.mono H1.out.2.1.size)
  have hB3 := hB2.trans (q3.mono hB2.size)
  have kd0 := c3.1 0 _ rfl
  have kd1 := c3.1 1 _ rfl
  have kd2 := c3.1 2 _ rfl
  have kd3 := c3.1 3 _ rfl
  have kd4 := c3.1 4 _ rfl
  have kd5 := c3.1 5 _ rfl
  have kd6 := c3.1 6 _ rfl
  have kd7 := c3.1 7 _ rfl
  have kd8 := c3.1 8 _ rfl
  have kd9 := c3.1 9 _ rfl
  have kd10 := c3.1 10 _ rfl
  have kd11 := c3.1 11 _ rfl
  have kd12 := c3.1 12 _ rfl
  have kd13 := c3.1 13 _ rfl
  have kd14 := c3.1 14 _ rfl
  have C4 := Lib.hid (CG.out w3 hB3)
  have H3 := Lib.hid (And.intro hB3 (And.intro c3 (And.intro p3 (And.intro hs3 hs2))))
  have hsw : w.heap.size < w2.heap.size := by have := H1.out.2.2; omega
  clear hb2 q3 p3 c3 hs3 hB2 hB3 hs2 hbn kc0 kc1 kc2 kc3 kc4 kc5 kc6 kc7 kc8 kc9 kc10 kc11 kc12 kc13 kc14
  simp only [Bn.cells]
  go_wp2_with fail
  refine C4.out.mono ?_
  rintro e w4 ⟨hb4, hok, hbad⟩
  obtain ⟨G, R, rfl, -⟩ := hok HX.out.1
  have c4 := H3.out.2.1.keep hb4
  have p4 := H3.out.2.2.1.keep hb4
  have hB4 := H3.out.1.trans (hb4.mono H3.out.1.size)
  have ke0 := c4.1 0 _ rfl
  have ke1 := c4.1 1 _ rfl
  have ke2 := c4.1 2 _ rfl
  have ke3 := c4.1 3 _ rfl
  have ke4 := c4.1 4 _ rfl
  have ke5 := c4.1 5 _ rfl
  have ke6 := c4.1 6 _ rfl
  have ke7 := c4.1 7 _ rfl
  have ke8 := c4.1 8 _ rfl
  have ke9 := c4.1 9 _ rfl
  have ke10 := c4.1 10 _ rfl
  have ke11 := c4.1 11 _ rfl
  have ke12 := c4.1 12 _ rfl
  have ke13 := c4.1 13 _ rfl
  have ke14 := c4.1 14 _ rfl
  have ye0 := p4.1 0 _ rfl
  have ye1 := p4.1 1 _ rfl
  have ye2 := p4.1 2 _ rfl
  have ye3 := p4.1 3 _ rfl
  have ye4 := p4.1 4 _ rfl
  have ye5 := p4.1 5 _ rfl
  have ye6 := p4.1 6 _ rfl
  have ye7 := p4.1 7 _ rfl
  have ye8 := p4.1 8 _ rfl
  have ye9 := p4.1 9 _ rfl
  have ye10 := p4.1 10 _ rfl
  have ye11 := p4.1 11 _ rfl
  have ye12 := p4.1 12 _ rfl
  have ye13 := p4.1 13 _ rfl
  have H4 := Lib.hid (And.intro hB4 (And.intro c4 p4))
  clear hb4 c4 p4 hB4 hbad kd0 kd1 kd2 kd3 kd4 kd5 kd6 kd7 kd8 kd9 kd10 kd11 kd12 kd13 kd14
  clear hok
  go_wp2_with fail
  refine (CE.out _).mono ?_
  rintro e w5 ⟨rfl, hb5⟩
  have HF := Lib.hid (HP.out w5 (H4.out.1.trans (hb5.mono H4.out.1.size)))
  have c5 := H4.out.2.1.keep hb5
  have kf0 := c5.1 0 _ rfl
  have kf1 := c5.1 1 _ rfl
  have kf2 := c5.1 2 _ rfl
  have kf3 := c5.1 3 _ rfl
  have kf4 := c5.1 4 _ rfl
  have kf5 := c5.1 5 _ rfl
  have kf6 := c5.1 6 _ rfl
  have kf7 := c5.1 7 _ rfl
  have kf8 := c5.1 8 _ rfl
  have kf9 := c5.1 9 _ rfl
  have kf10 := c5.1 10 _ rfl
  have kf11 := c5.1 11 _ rfl
  have kf12 := c5.1 12 _ rfl
  have kf13 := c5.1 13 _ rfl
  have kf14 := c5.1 14 _ rfl
  rw [HX.out.2.1]
  clear hb5 c5
  rcases HX.out.2.2 with h4 | ⟨h4, h5⟩
  · go_wp2
    go_ret2
    exact HF.out
  · have h4' : ¬ id < 0 := by omega
    go_wp2
    go_ret2
    exact HF.out
end Go.Proofs.YteahiphmhaedpaaGreatDoor
