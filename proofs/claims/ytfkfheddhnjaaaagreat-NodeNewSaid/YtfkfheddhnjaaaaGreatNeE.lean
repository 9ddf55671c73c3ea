/- The reference's node is made. -/
import Derived.Test.YtfkfheddhnjaaaaGreatNeD
import Derived.Deep.MidRow
namespace Go.Proofs.YtfkfheddhnjaaaaGreat
open Go.RowKit Law
set_option linter.unusedVariables false
set_option linter.unusedSimpArgs false
set_option maxRecDepth 100000

theorem boxThere {w : World} {B : Nat} {L : List Value} (h : BoxF w B L) (o n : Nat) (hn : o + n ≤ L.length) : w.there B o n := fun j hj => ⟨by rw [h.1 (o + j) _ (List.getElem?_eq_getElem (by omega))]; rfl, h.2 (o + j) (by omega)⟩
theorem boxSome {w : World} {B : Nat} {L : List Value} (h : BoxF w B L) {k : Nat} (hk : k < L.length) : ∃ u, w.cell? ⟨B, k, none⟩ = some u := ⟨_, h.1 k _ (List.getElem?_eq_getElem hk)⟩
def rZ (n f dmin dmax rho slew round window attend seen hist fly quota body o0 o1 o2 o3 o4 o5 o6 o7 o8 o9 o10 o11 o12 o13 id hd sl : Int) (A A3 : Option Addr) (l k l3 k3 : Nat) : List Value := [.int .i64 n, .slice A l k, .int .i64 f, .int .i64 dmin, .int .i64 dmax, .int .i64 rho, .int .i64 slew, .int .i64 round, .int .i64 window, .int .i64 attend, .int .i64 seen, .int .i64 hist, .int .i64 fly, .int .i64 quota, .int .i64 body, .int .i64 o0, .int .i64 o1, .int .i64 o2, .int .i64 o3, .int .i64 o4, .int .i64 o5, .int .i64 o6, .int .i64 o7, .int .i64 o8, .int .i64 o9, .int .i64 o10, .int .i64 o11, .int .i64 o12, .int .i64 o13, .int .i64 id, .slice A3 l3 k3, .int .i64 hd, .int .i64 0, .int .i64 0, .int .i64 0, .int .i64 sl] ++ ([.int .i64 0, .slice none 0 0, .bool false, .int .i64 (-1), .int .i64 0, .int .i64 0, .int .i64 0, .int .i64 0, .int .i64 0, .int .i64 0, .int .i64 0, .int .i64 0, .int .i64 0, .int .i64 0, .int .i64 0, .int .i64 0, .int .i64 0, .int .i64 0, .int .i64 0, .int .i64 0, .int .i64 0, .slice none 0 0, .int .i64 0, .slice none 0 0, .int .i64 0, .int .i64 0, .int .i64 0, .int .i64 0, .int .u32 0, .bool false, .int .i64 0, .int .i64 0, .int .i64 0, .slice none 0 0, .int .i64 0, .int .i64 0, .int .i64 0, .int .i64 0, .int .i64 0, .int .i64 0, .int .i64 0, .slice none 0 0, .int .u64 0, .int .i64 0, .int .i64 0, .int .i64 0, .slice none 0 0] ++ (ledZ ++ ([.bool false, .int .i64 0, .slice none 0 0] ++ (List.replicate 20 (.int .i64 0) ++ [.slice none 0 0]))))
theorem rZ_eq (n f dmin dmax rho slew round window attend seen hist fly quota body o0 o1 o2 o3 o4 o5 o6 o7 o8 o9 o10 o11 o12 o13 id hd sl : Int) (A A3 : Option Addr) (l k l3 k3 : Nat) : (((((((((((((((((((((((((((((((((((((Tryz.zeroCells123.setIfInBounds 0 (.int .i64 n)).setIfInBounds 1 (.slice A l k)).setIfInBounds 2 (.int .i64 f)).setIfInBounds 3 (.int .i64 dmin)).setIfInBounds 4 (.int .i64 dmax)).setIfInBounds 5 (.int .i64 rho)).setIfInBounds 6 (.int .i64 slew)).setIfInBounds 7 (.int .i64 round)).setIfInBounds 8 (.int .i64 window)).setIfInBounds 9 (.int .i64 attend)).setIfInBounds 10 (.int .i64 seen)).setIfInBounds 11 (.int .i64 hist)).setIfInBounds 12 (.int .i64 fly)).setIfInBounds 13 (.int .i64 quota)).setIfInBounds 14 (.int .i64 body)).setIfInBounds 15 (.int .i64 o0)).setIfInBounds 16 (.int .i64 o1)).setIfInBounds 17 (.int .i64 o2)).setIfInBounds 18 (.int .i64 o3)).setIfInBounds 19 (.int .i64 o4)).setIfInBounds 20 (.int .i64 o5)).setIfInBounds 21 (.int .i64 o6)).setIfInBounds 22 (.int .i64 o7)).setIfInBounds 23 (.int .i64 o8)).setIfInBounds 24 (.int .i64 o9)).setIfInBounds 25 (.int .i64 o10)).setIfInBounds 26 (.int .i64 o11)).setIfInBounds 27 (.int .i64 o12)).setIfInBounds 28 (.int .i64 o13)).setIfInBounds 29 (.int .i64 id)).setIfInBounds 30 (.slice A3 l3 k3)).setIfInBounds 31 (.int .i64 hd)).setIfInBounds 32 (.int .i64 0)).setIfInBounds 33 (.int .i64 0)).setIfInBounds 34 (.int .i64 0)).setIfInBounds 35 (.int .i64 sl)).setIfInBounds 39 (.int .i64 (-1))) = (rZ n f dmin dmax rho slew round window attend seen hist fly quota body o0 o1 o2 o3 o4 o5 o6 o7 o8 o9 o10 o11 o12 o13 id hd sl A A3 l k l3 k3).toArray := by kernel_rfl
theorem rZ_len (n f dmin dmax rho slew round window attend seen hist fly quota body o0 o1 o2 o3 o4 o5 o6 o7 o8 o9 o10 o11 o12 o13 id hd sl : Int) (A A3 : Option Addr) (l k l3 k3 : Nat) : (rZ n f dmin dmax rho slew round window attend seen hist fly quota body o0 o1 o2 o3 o4 o5 o6 o7 o8 o9 o10 o11 o12 o13 id hd sl A A3 l k l3 k3).length = 173 := by simp [rZ, ledZ]
set_option maxHeartbeats 3200000 in
theorem refNd_of (n f dmin dmax rho slew round window attend seen hist fly quota body o0 o1 o2 o3 o4 o5 o6 o7 o8 o9 o10 o11 o12 o13 id hd sl : Int) (A A3 : Option Addr) (l k l3 k3 : Nat) (mt mh dh q0 q1 mr p0 p1 : Int) {w : World} {B : Nat} (h : BoxF w B (putL (putL (putL (putL (putL (putL (rZ n f dmin dmax rho slew round window attend seen hist fly quota body o0 o1 o2 o3 o4 o5 o6 o7 o8 o9 o10 o11 o12 o13 id hd sl A A3 l k l3 k3) 41 [.int .i64 id, .int .i64 n, .int .i64 o0, .int .i64 o1, .int .i64 o2, .int .i64 o3, .int .i64 o4, .int .i64 o5, .int .i64 o6, .int .i64 o7, .int .i64 o8, .int .i64 o9, .int .i64 o10, .int .i64 o11, .int .i64 o12, .int .i64 o13, .slice none 0 0, .int .i64 mt]) 59 [.slice none 0 0, .int .i64 mh, .int .i64 dh, .int .i64 0, .int .i64 0, .int .u32 0, .bool false]) 66 [.int .i64 q0, .int .i64 q1, .int .i64 0]) 69 [.slice none 0 0, .int .i64 mr]) 72 [.int .i64 p0, .int .i64 p1]) 74 [.int .i64 0, .int .i64 (-1), .int .i64 0])) : RefNd w B := by
  intro o v hv
  unfold rCell at hv
  split at hv
  · injection hv with hv; subst hv; exact h.1 32 _ (by kernel_rfl)
  · injection hv with hv; subst hv; exact h.1 33 _ (by kernel_rfl)
  · injection hv with hv; subst hv; exact h.1 57 _ (by kernel_rfl)
  · injection hv with hv; subst hv; exact h.1 59 _ (by kernel_rfl)
  · injection hv with hv; subst hv; exact h.1 68 _ (by kernel_rfl)
  · injection hv with hv; subst hv; exact h.1 69 _ (by kernel_rfl)
  · injection hv with hv; subst hv; exact h.1 74 _ (by kernel_rfl)
  · injection hv with hv; subst hv; exact h.1 77 _ (by kernel_rfl)
  · injection hv with hv; subst hv; exact h.1 82 _ (by kernel_rfl)
  · injection hv with hv; subst hv; exact h.1 149 _ (by kernel_rfl)
  · split at hv
    · rename_i ho
      injection hv with hv
      subst hv
      have hh : o = 152 ∨ o = 153 ∨ o = 154 ∨ o = 155 ∨ o = 156 ∨ o = 157 ∨ o = 158 ∨ o = 159 ∨ o = 160 ∨ o = 161 ∨ o = 162 ∨ o = 163 ∨ o = 164 ∨ o = 165 ∨ o = 166 ∨ o = 167 ∨ o = 168 ∨ o = 169 ∨ o = 170 ∨ o = 171 := by omega
      rcases hh with rfl | rfl | rfl | rfl | rfl | rfl | rfl | rfl | rfl | rfl | rfl | rfl | rfl | rfl | rfl | rfl | rfl | rfl | rfl | rfl
      · exact h.1 152 _ (by kernel_rfl)
      · exact h.1 153 _ (by kernel_rfl)
      · exact h.1 154 _ (by kernel_rfl)
      · exact h.1 155 _ (by kernel_rfl)
      · exact h.1 156 _ (by kernel_rfl)
      · exact h.1 157 _ (by kernel_rfl)
      · exact h.1 158 _ (by kernel_rfl)
      · exact h.1 159 _ (by kernel_rfl)
      · exact h.1 160 _ (by kernel_rfl)
      · exact h.1 161 _ (by kernel_rfl)
      · exact h.1 162 _ (by kernel_rfl)
      · exact h.1 163 _ (by kernel_rfl)
      · exact h.1 164 _ (by kernel_rfl)
      · exact h.1 165 _ (by kernel_rfl)
      · exact h.1 166 _ (by kernel_rfl)
      · exact h.1 167 _ (by kernel_rfl)
      · exact h.1 168 _ (by kernel_rfl)
      · exact h.1 169 _ (by kernel_rfl)
      · exact h.1 170 _ (by kernel_rfl)
      · exact h.1 171 _ (by kernel_rfl)
    · cases hv
theorem gErr_n {n : Int} {L : List Pr} (h : gErr n L = 0) : 1 ≤ n ∧ n ≤ 64 := by
  unfold gErr at h
  split at h
  · cases h
  · omega
set_option maxHeartbeats 25600000 in
theorem rNodeE (c : Cn) (A : Option Addr) (l k : Nat) (L : List Pr) (hl : L.length = l) (hm : l ≤ 4000000000) (id hard : Int) (w : World) (hA : LinksAt w A L) (h1 : gErr c.n L = 0) (h2 : enoughB c = true) (h3 : ¬ c.f < 0) (h4 : 0 ≤ id) (h5 : ¬ c.n ≤ id) :
    Calls Tryz.prog 5 #[.agg (c.cells A l k).toArray, .int .i64 id, .int .i64 hard] w (RNdPost c L id w) := by
  obtain ⟨n, f, dmin, dmax, rho, slew, round, window, attend, seen, hist, fly, quota, body⟩ := c
  replace h1 : gErr n L = 0 := h1
  replace h3 : ¬ f < 0 := h3
  replace h5 : ¬ n ≤ id := h5
  have HE : Hid (newErr ⟨n, f, dmin, dmax, rho, slew, round, window, attend, seen, hist, fly, quota, body⟩ L id = 0) := by unfold Hid newErr; rw [if_neg (fun h => h.elim (fun h => h h1) (fun h => h.elim (fun h => by rw [h2] at h; cases h) h3)), if_neg (fun h => h.elim (by omega) h5)]
  have hgd : goodC ⟨n, f, dmin, dmax, rho, slew, round, window, attend, seen, hist, fly, quota, body⟩ = true := by
    unfold enoughB at h2
    simp only [Bool.and_eq_true] at h2
    exact h2.1
  have HP : Hid (∀ w' B, Below w.heap.size w w' → RefNd w' B → RNdPost ⟨n, f, dmin, dmax, rho, slew, round, window, attend, seen, hist, fly, quota, body⟩ L id w (.returned (.tuple #[.pointer (some ⟨B, 0, none⟩), .int .i64 0])) w') := fun w' b h h' => ⟨h, fun _ => ⟨b, rfl, h'⟩, fun h0 => absurd HE.out h0⟩
  have HX := Lib.hid (And.intro h1 h2)
  have CO : ∀ (W : World), Calls Tryz.prog 26 #[.agg #[.int .i64 n, .slice A l k, .int .i64 f, .int .i64 dmin, .int .i64 dmax, .int .i64 rho, .int .i64 slew, .int .i64 round, .int .i64 window, .int .i64 attend, .int .i64 seen, .int .i64 hist, .int .i64 fly, .int .i64 quota, .int .i64 body]] W fun e w' => e = .returned (.agg (Bn.cells (bnOf ⟨n, f, dmin, dmax, rho, slew, round, window, attend, seen, hist, fly, quota, body⟩)).toArray) ∧ Below W.heap.size W w' := fun W => ref26Of ⟨n, f, dmin, dmax, rho, slew, round, window, attend, seen, hist, fly, quota, body⟩ hgd A l k W
  obtain ⟨⟨o0, o1, o2, o3, o4, o5, o6, o7, o8, o9, o10, o11, o12, o13⟩, hbc⟩ : ∃ b : Bn, bnOf ⟨n, f, dmin, dmax, rho, slew, round, window, attend, seen, hist, fly, quota, body⟩ = b := ⟨_, rfl⟩
  rw [hbc] at CO
  simp only [Bn.cells] at CO
  have CO := Lib.hid CO
  have HN := Lib.hid (And.intro (gErr_n h1) hm)
  clear hbc
  have h4 : ¬ (id < 0) := by omega
  clear h1 h2 hgd
  have CE := Lib.hid (fun W => refEnough ⟨n, f, dmin, dmax, rho, slew, round, window, attend, seen, hist, fly, quota, body⟩ A l k W)
  have CG := fun (W : World) (hW : Below w.heap.size w W) => rNew n A k L hl hm W (hA.below hW)
  unfold RNewPost at CG
  have CG := Lib.hid CG
  have k0 := boxF_made w [.int .i64 n, .slice A l k, .int .i64 f, .int .i64 dmin, .int .i64 dmax, .int .i64 rho, .int .i64 slew, .int .i64 round, .int .i64 window, .int .i64 attend, .int .i64 seen, .int .i64 hist, .int .i64 fly, .int .i64 quota, .int .i64 body] 24
  have k1 := (Below.refl w.heap.size w).alloc (Nat.le_refl _) (.cells #[.int .i64 n, .slice A l k, .int .i64 f, .int .i64 dmin, .int .i64 dmax, .int .i64 rho, .int .i64 slew, .int .i64 round, .int .i64 window, .int .i64 attend, .int .i64 seen, .int .i64 hist, .int .i64 fly, .int .i64 quota, .int .i64 body] 24)
  obtain ⟨w1, hw1⟩ : ∃ w1, w.alloc (.cells #[.int .i64 n, .slice A l k, .int .i64 f, .int .i64 dmin, .int .i64 dmax, .int .i64 rho, .int .i64 slew, .int .i64 round, .int .i64 window, .int .i64 attend, .int .i64 seen, .int .i64 hist, .int .i64 fly, .int .i64 quota, .int .i64 body] 24) = w1 := ⟨_, rfl⟩
  have hs1 : w1.heap.size = w.heap.size + 1 := by rw [← hw1]; simp
  rw [hw1] at k0 k1
  have kc0 := k0.1 0 _ rfl
  have kc1 := k0.1 1 _ rfl
  have kc2 := k0.1 2 _ rfl
  have kc3 := k0.1 3 _ rfl
  have kc4 := k0.1 4 _ rfl
  have kc5 := k0.1 5 _ rfl
  have kc6 := k0.1 6 _ rfl
  have kc7 := k0.1 7 _ rfl
  have kc8 := k0.1 8 _ rfl
  have kc9 := k0.1 9 _ rfl
  have kc10 := k0.1 10 _ rfl
  have kc11 := k0.1 11 _ rfl
  have kc12 := k0.1 12 _ rfl
  have kc13 := k0.1 13 _ rfl
  have kc14 := k0.1 14 _ rfl
  have H1 := Lib.hid (And.intro k0 (And.intro k1 hs1))
  have C1 := Lib.hid (CG.out w1 k1)
  have HLL := Lib.hid hl
  clear k0 k1 hs1 hA hm hl
  go_enter Tryz.func5, Tryz.ntmps5
  go_wp2_with fail
  refine C1.out.mono ?_
  rintro e w2 ⟨hb2, hok, hbad⟩
  obtain ⟨A2, k2, rfl, hA2, hk2⟩ := hok HX.out.1
  rw [HLL.out]
  have g3 := boxF_made w2 [.int .i64 n, .slice A2 l k2] 88
  have b3 := (Below.refl w2.heap.size w2).alloc (Nat.le_refl _) (.cells #[.int .i64 n, .slice A2 l k2] 88)
  obtain ⟨w3, hw3⟩ : ∃ w3, w2.alloc (.cells #[.int .i64 n, .slice A2 l k2] 88) = w3 := ⟨_, rfl⟩
  have hs3 : w3.heap.size = w2.heap.size + 1 := by rw [← hw3]; simp
  rw [hw3] at b3
  rw [show w2.alloc (.cells [.int .i64 n, .slice A2 l k2].toArray 88) = w3 from hw3] at g3
  have b23 := hb2.trans (b3.mono hb2.size)
  have c3 := H1.out.1.keep b23
  have hB3 := H1.out.2.1.trans (b23.mono H1.out.2.1.size)
  have kd0 := c3.1 0 _ rfl
  have kd1 := c3.1 1 _ rfl
  have kd2 := c3.1 2 _ rfl
  have kd3 := c3.1 3 _ rfl
  have kd4 := c3.1 4 _ rfl
  have kd5 := c3.1 5 _ rfl
  have kd6 := c3.1 6 _ rfl
  have kd7 := c3.1 7 _ rfl
  have kd8 := c3.1 8 _ rfl
  have kd9 := c3.1 9 _ rfl
  have kd10 := c3.1 10 _ rfl
  have kd11 := c3.1 11 _ rfl
  have kd12 := c3.1 12 _ rfl
  have kd13 := c3.1 13 _ rfl
  have kd14 := c3.1 14 _ rfl
  have hs2 := hb2.size
  have H3 := Lib.hid (And.intro hB3 (And.intro c3 (And.intro g3 (And.intro (hA2.below b3) (And.intro hs3 hs2)))))
  clear hb2 hok hbad b3 b23 c3 hB3 g3 hs3 hs2 hA2 kc0 kc1 kc2 kc3 kc4 kc5 kc6 kc7 kc8 kc9 kc10 kc11 kc12 kc13 kc14
  go_wp2_with fail
  refine (CE.out _).mono ?_
  rintro e w5 ⟨rfl, hb5⟩
  rw [HX.out.2]
  have c5 := H3.out.2.1.keep hb5
  have g5 := H3.out.2.2.1.keep hb5
  have kf0 := c5.1 0 _ rfl
  have kf1 := c5.1 1 _ rfl
  have kf2 := c5.1 2 _ rfl
  have kf3 := c5.1 3 _ rfl
  have kf4 := c5.1 4 _ rfl
  have kf5 := c5.1 5 _ rfl
  have kf6 := c5.1 6 _ rfl
  have kf7 := c5.1 7 _ rfl
  have kf8 := c5.1 8 _ rfl
  have kf9 := c5.1 9 _ rfl
  have kf10 := c5.1 10 _ rfl
  have kf11 := c5.1 11 _ rfl
  have kf12 := c5.1 12 _ rfl
  have kf13 := c5.1 13 _ rfl
  have kf14 := c5.1 14 _ rfl
  have H5 := Lib.hid (And.intro (H3.out.1.trans (hb5.mono H3.out.1.size)) (And.intro c5 (And.intro g5 (H3.out.2.2.2.1.below hb5))))
  clear hb5 c5 g5
  go_wp2_with fail
  refine (CO.out _).mono ?_
  rintro e w6 ⟨rfl, hb6⟩
  have p7 := boxF_made w6 [.int .i64 o0, .int .i64 o1, .int .i64 o2, .int .i64 o3, .int .i64 o4, .int .i64 o5, .int .i64 o6, .int .i64 o7, .int .i64 o8, .int .i64 o9, .int .i64 o10, .int .i64 o11, .int .i64 o12, .int .i64 o13] 91
  have b7 := (Below.refl w6.heap.size w6).alloc (Nat.le_refl _) (.cells #[.int .i64 o0, .int .i64 o1, .int .i64 o2, .int .i64 o3, .int .i64 o4, .int .i64 o5, .int .i64 o6, .int .i64 o7, .int .i64 o8, .int .i64 o9, .int .i64 o10, .int .i64 o11, .int .i64 o12, .int .i64 o13] 91)
  obtain ⟨w7, hw7⟩ : ∃ w7, w6.alloc (.cells #[.int .i64 o0, .int .i64 o1, .int .i64 o2, .int .i64 o3, .int .i64 o4, .int .i64 o5, .int .i64 o6, .int .i64 o7, .int .i64 o8, .int .i64 o9, .int .i64 o10, .int .i64 o11, .int .i64 o12, .int .i64 o13] 91) = w7 := ⟨_, rfl⟩
  rw [hw7] at b7
  rw [show w6.alloc (.cells [.int .i64 o0, .int .i64 o1, .int .i64 o2, .int .i64 o3, .int .i64 o4, .int .i64 o5, .int .i64 o6, .int .i64 o7, .int .i64 o8, .int .i64 o9, .int .i64 o10, .int .i64 o11, .int .i64 o12, .int .i64 o13].toArray 91) = w7 from hw7] at p7
  have b67 := hb6.trans (b7.mono hb6.size)
  have H7 := Lib.hid (And.intro (H5.out.1.trans (b67.mono H5.out.1.size)) (And.intro (H5.out.2.1.keep b67) (And.intro p7 (And.intro (H5.out.2.2.1.keep b67) (H5.out.2.2.2.below b67)))))
  have HS7 : Hid (∀ W, Below w7.heap.size w7 W → BoxF W w.heap.size [.int .i64 n, .slice A l k, .int .i64 f, .int .i64 dmin, .int .i64 dmax, .int .i64 rho, .int .i64 slew, .int .i64 round, .int .i64 window, .int .i64 attend, .int .i64 seen, .int .i64 hist, .int .i64 fly, .int .i64 quota, .int .i64 body] ∧ BoxF W w6.heap.size [.int .i64 o0, .int .i64 o1, .int .i64 o2, .int .i64 o3, .int .i64 o4, .int .i64 o5, .int .i64 o6, .int .i64 o7, .int .i64 o8, .int .i64 o9, .int .i64 o10, .int .i64 o11, .int .i64 o12, .int .i64 o13] ∧ BoxF W w2.heap.size [.int .i64 n, .slice A2 l k2]) := fun W hW => ⟨H7.out.2.1.keep hW, H7.out.2.2.1.keep hW, H7.out.2.2.2.1.keep hW⟩
  have HD7 : Hid (Below w7.heap.size w7 w7.drew) := (Below.refl _ _).drew
  obtain ⟨nn, hnn⟩ : ∃ nn : Nat, n = (nn : Int) := ⟨n.toNat, by have := HN.out.1; omega⟩
  have CNr : Calls Tryz.prog 27 #[.agg #[.int .i64 n, .slice A2 l k2], .int .i64 id] w7.drew (SomeSl w7.drew) := by
    rw [hnn]
    exact rNear nn (by have := HN.out.1; omega) A2 l k2 L HLL.out (by have := HN.out.2; omega) id w7.drew (H7.out.2.2.2.2.below HD7.out)
  have CNr := Lib.hid CNr
  have CT := fun (W : World) => rTime hard W
  obtain ⟨hd, hhd⟩ : ∃ hd, clampI hard 0 1152921504606846976 = hd := ⟨_, rfl⟩
  rw [hhd] at CT
  have CT := Lib.hid CT
  have CK := fun (W : World) => rClockNew slew W
  obtain ⟨sl, hsl⟩ : ∃ sl, clampI slew 1 256 = sl := ⟨_, rfl⟩
  rw [hsl] at CK
  have CK := Lib.hid CK
  clear hb6 p7 b7 b67 hnn hhd hsl kf0 kf1 kf2 kf3 kf4 kf5 kf6 kf7 kf8 kf9 kf10 kf11 kf12 kf13 kf14 kd0 kd1 kd2 kd3 kd4 kd5 kd6 kd7 kd8 kd9 kd10 kd11 kd12 kd13 kd14
  go_wp2_with fail
  refine wp_region_perm [] [0, 1, 2, 3, 4, 6, 8, 9] [5, 7, 10, 11, 12, 13] 14 18 (fun W => Below w7.heap.size w7 W) (by kernel_rfl) (by kernel_rfl) (by intro c a t v w h; exact h) HD7.out ?_
  simp only [pickL, List.drop_succ_cons, List.drop_zero, List.head?_cons, Option.toList_some, List.cons_append, List.nil_append]
  refine wpHead_nil ?_
  iterate 8 (refine wpHead_step _ (by rfl) (by intro W hW; obtain ⟨zc, zb, zg⟩ := HS7.out W hW; have z0 := zc.1 0 _ rfl; have z1 := zc.1 1 _ rfl; have z2 := zc.1 2 _ rfl; have z3 := zc.1 3 _ rfl; have z4 := zc.1 4 _ rfl; have z5 := zc.1 5 _ rfl; have z6 := zc.1 6 _ rfl; have z7 := zc.1 7 _ rfl; have z8 := zc.1 8 _ rfl; have z9 := zc.1 9 _ rfl; have z10 := zc.1 10 _ rfl; have z11 := zc.1 11 _ rfl; have z12 := zc.1 12 _ rfl; have z13 := zc.1 13 _ rfl; have z14 := zc.1 14 _ rfl; have y0 := zb.1 0 _ rfl; have y1 := zb.1 1 _ rfl; have y2 := zb.1 2 _ rfl; have y3 := zb.1 3 _ rfl; have y4 := zb.1 4 _ rfl; have y5 := zb.1 5 _ rfl; have y6 := zb.1 6 _ rfl; have y7 := zb.1 7 _ rfl; have y8 := zb.1 8 _ rfl; have y9 := zb.1 9 _ rfl; have y10 := zb.1 10 _ rfl; have y11 := zb.1 11 _ rfl; have y12 := zb.1 12 _ rfl; have y13 := zb.1 13 _ rfl; have x0 := zg.1 0 _ rfl; have x1 := zg.1 1 _ rfl; clear zc zb zg hW; go_simp; with_reducible rfl) ?_; simp only [Act.put, List.setIfInBounds_toArray, List.set_cons_zero, List.set_cons_succ])
  refine wpHead_nil ?_
  refine ⟨by rfl, ?_⟩
  go_simp
  go_at_call 27
  refine CNr.out.mono ?_
  rintro e w8 ⟨⟨A3, l3, k3, rfl⟩, hb8⟩
  have HB8 := Lib.hid (HD7.out.trans (hb8.mono HD7.out.size))
  clear hb8
  refine ⟨HB8.out, by rfl, ?_⟩
  go_simp
  go_at_call 28
  refine (CT.out _).mono ?_
  rintro e w9 ⟨rfl, rfl⟩
  refine ⟨HB8.out, by rfl, ?_⟩
  go_simp
  go_at_call 29
  refine (CK.out _).mono ?_
  rintro e w9 ⟨rfl, hb9⟩
  have HB9 := Lib.hid (HB8.out.trans (hb9.mono HB8.out.size))
  clear hb9
  have z10 := boxF_made w9 (rZ n f dmin dmax rho slew round window attend seen hist fly quota body o0 o1 o2 o3 o4 o5 o6 o7 o8 o9 o10 o11 o12 o13 id hd sl A A3 l k l3 k3) 123
  have y10 := (Below.refl w9.heap.size w9).alloc (Nat.le_refl _) (.cells (rZ n f dmin dmax rho slew round window attend seen hist fly quota body o0 o1 o2 o3 o4 o5 o6 o7 o8 o9 o10 o11 o12 o13 id hd sl A A3 l k l3 k3).toArray 123)
  rw [← rZ_eq] at z10 y10
  obtain ⟨w10, hw10⟩ : ∃ w10, w9.alloc (.cells ((((((((((((((((((((((((((((((((((((((Tryz.zeroCells123.setIfInBounds 0 (.int .i64 n)).setIfInBounds 1 (.slice A l k)).setIfInBounds 2 (.int .i64 f)).setIfInBounds 3 (.int .i64 dmin)).setIfInBounds 4 (.int .i64 dmax)).setIfInBounds 5 (.int .i64 rho)).setIfInBounds 6 (.int .i64 slew)).setIfInBounds 7 (.int .i64 round)).setIfInBounds 8 (.int .i64 window)).setIfInBounds 9 (.int .i64 attend)).setIfInBounds 10 (.int .i64 seen)).setIfInBounds 11 (.int .i64 hist)).setIfInBounds 12 (.int .i64 fly)).setIfInBounds 13 (.int .i64 quota)).setIfInBounds 14 (.int .i64 body)).setIfInBounds 15 (.int .i64 o0)).setIfInBounds 16 (.int .i64 o1)).setIfInBounds 17 (.int .i64 o2)).setIfInBounds 18 (.int .i64 o3)).setIfInBounds 19 (.int .i64 o4)).setIfInBounds 20 (.int .i64 o5)).setIfInBounds 21 (.int .i64 o6)).setIfInBounds 22 (.int .i64 o7)).setIfInBounds 23 (.int .i64 o8)).setIfInBounds 24 (.int .i64 o9)).setIfInBounds 25 (.int .i64 o10)).setIfInBounds 26 (.int .i64 o11)).setIfInBounds 27 (.int .i64 o12)).setIfInBounds 28 (.int .i64 o13)).setIfInBounds 29 (.int .i64 id)).setIfInBounds 30 (.slice A3 l3 k3)).setIfInBounds 31 (.int .i64 hd)).setIfInBounds 32 (.int .i64 0)).setIfInBounds 33 (.int .i64 0)).setIfInBounds 34 (.int .i64 0)).setIfInBounds 35 (.int .i64 sl)).setIfInBounds 39 (.int .i64 (-1)))) 123) = w10 := ⟨_, rfl⟩
  rw [hw10] at z10 y10
  have HB10 := Lib.hid (HB9.out.trans (y10.mono HB9.out.size))
  have hl0 := H7.out.2.1.lt (by simp)
  have hl1 := H7.out.2.2.1.lt (by simp)
  have hl2 := H7.out.2.2.2.1.lt (by simp)
  have hl9 := HB9.out.size
  obtain ⟨L10, hL10⟩ : ∃ L, rZ n f dmin dmax rho slew round window attend seen hist fly quota body o0 o1 o2 o3 o4 o5 o6 o7 o8 o9 o10 o11 o12 o13 id hd sl A A3 l k l3 k3 = L := ⟨_, rfl⟩
  have n10 : L10.length = 173 := by rw [← hL10, rZ_len]
  rw [hL10] at z10
  have HL10 := Lib.hid hL10
  clear hL10
  have H10 := Lib.hid (And.intro (And.intro z10 n10) (And.intro (H7.out.1.trans (HB10.out.mono H7.out.1.size)) (And.intro (show w.heap.size < w9.heap.size by omega) (And.intro (show w6.heap.size < w9.heap.size by omega) (show w2.heap.size < w9.heap.size by omega)))))
  clear z10 y10 hl0 hl1 hl2 hl9
  refine ⟨HB9.out, by rfl, ?_⟩
  go_simp
  refine ⟨HB9.out, by rfl, ?_⟩
  go_simp
  refine ⟨HB10.out, by rfl, ?_⟩
  go_simp
  refine ⟨HB10.out, ?_⟩
  refine wpMid_nil ?_
  have HS10 : Hid (∀ W, Below w9.heap.size w10 W → BoxF W w.heap.size [.int .i64 n, .slice A l k, .int .i64 f, .int .i64 dmin, .int .i64 dmax, .int .i64 rho, .int .i64 slew, .int .i64 round, .int .i64 window, .int .i64 attend, .int .i64 seen, .int .i64 hist, .int .i64 fly, .int .i64 quota, .int .i64 body] ∧ BoxF W w6.heap.size [.int .i64 o0, .int .i64 o1, .int .i64 o2, .int .i64 o3, .int .i64 o4, .int .i64 o5, .int .i64 o6, .int .i64 o7, .int .i64 o8, .int .i64 o9, .int .i64 o10, .int .i64 o11, .int .i64 o12, .int .i64 o13] ∧ BoxF W w2.heap.size [.int .i64 n, .slice A2 l k2]) := fun W hW => ⟨(H7.out.2.1.keep HB10.out).same (hW.block _ H10.out.2.2.1), (H7.out.2.2.1.keep HB10.out).same (hW.block _ H10.out.2.2.2.1), (H7.out.2.2.2.1.keep HB10.out).same (hW.block _ H10.out.2.2.2.2)⟩
  have HD10 : Hid (Below w9.heap.size w10 w10.drew) := (Below.refl _ _).drew
  have C_mt := fun (W : World) => rTabNew seen W
  obtain ⟨mt, hmt⟩ : ∃ mt, min (max seen 0) 65536 = mt := ⟨_, rfl⟩
  rw [hmt] at C_mt
  have C_mt := Lib.hid C_mt
  clear hmt
  have C_mr := fun (W : World) => rRollNew seen W
  obtain ⟨mr, hmr⟩ : ∃ mr, min (max seen 0) 65536 = mr := ⟨_, rfl⟩
  rw [hmr] at C_mr
  have C_mr := Lib.hid C_mr
  clear hmr
  have C_q := fun (W : World) => rQuotaNew quota body W
  obtain ⟨q0, hq0⟩ : ∃ q0, (if quota < 0 then 0 else if 65536 < quota then 65536 else quota) = q0 := ⟨_, rfl⟩
  obtain ⟨q1, hq1⟩ : ∃ q1, (if body < 0 then 0 else if 1024 < body then 1024 else body) = q1 := ⟨_, rfl⟩
  rw [hq0, hq1] at C_q
  have C_q := Lib.hid C_q
  have C_p := fun (W : World) => rPerNew attend o11 W
  obtain ⟨p0, hp0⟩ : ∃ p0, clampI attend 1 1099511627776 = p0 := ⟨_, rfl⟩
  obtain ⟨p1, hp1⟩ : ∃ p1, clampI o11 0 1099511627776 = p1 := ⟨_, rfl⟩
  rw [hp0, hp1] at C_p
  have C_p := Lib.hid C_p
  clear hq0 hq1 hp0 hp1
  go_wp2_with fail
  refine wp_region_perm [] [0, 1, 2, 3, 4, 5, 6] [7, 8, 9, 10, 11] 12 16 (fun W => Below w9.heap.size w10 W) (by kernel_rfl) (by kernel_rfl) (by intro c a t v w h; exact h) HD10.out ?_
  simp only [pickL, List.drop_succ_cons, List.drop_zero, List.head?_cons, Option.toList_some, List.cons_append, List.nil_append]
  refine wpHead_nil ?_
  iterate 7 (refine wpHead_step _ (by rfl) (by intro W hW; obtain ⟨zc, zb, zg⟩ := HS10.out W hW; have z0 := zc.1 0 _ rfl; have z1 := zc.1 1 _ rfl; have z2 := zc.1 2 _ rfl; have z3 := zc.1 3 _ rfl; have z4 := zc.1 4 _ rfl; have z5 := zc.1 5 _ rfl; have z6 := zc.1 6 _ rfl; have z7 := zc.1 7 _ rfl; have z8 := zc.1 8 _ rfl; have z9 := zc.1 9 _ rfl; have z10 := zc.1 10 _ rfl; have z11 := zc.1 11 _ rfl; have z12 := zc.1 12 _ rfl; have z13 := zc.1 13 _ rfl; have z14 := zc.1 14 _ rfl; have y0 := zb.1 0 _ rfl; have y1 := zb.1 1 _ rfl; have y2 := zb.1 2 _ rfl; have y3 := zb.1 3 _ rfl; have y4 := zb.1 4 _ rfl; have y5 := zb.1 5 _ rfl; have y6 := zb.1 6 _ rfl; have y7 := zb.1 7 _ rfl; have y8 := zb.1 8 _ rfl; have y9 := zb.1 9 _ rfl; have y10 := zb.1 10 _ rfl; have y11 := zb.1 11 _ rfl; have y12 := zb.1 12 _ rfl; have y13 := zb.1 13 _ rfl; have x0 := zg.1 0 _ rfl; have x1 := zg.1 1 _ rfl; clear zc zb zg hW; go_simp; with_reducible rfl) ?_; simp only [Act.put, List.setIfInBounds_toArray, List.set_cons_zero, List.set_cons_succ])
  refine wpHead_nil ?_
  refine ⟨by rfl, ?_⟩
  go_simp
  go_at_call 30
  refine (C_mt.out _).mono ?_
  rintro e w11 ⟨rfl, hb11⟩
  replace hb11 : Below w10.heap.size w10 w11 := (show Below w10.heap.size w10 w10.drew from (Below.refl _ _).drew).trans hb11
  have h910 : w9.heap.size ≤ w10.heap.size := Nat.le_of_lt (H10.out.1.1.lt (by rw [H10.out.1.2]; omega))
  have HB11 : Hid (Below w9.heap.size w10 w11) := hb11.mono h910
  have z11 := H10.out.1.1.keep hb11
  have n11 := H10.out.1.2
  have HO12 : Hid ((List.toArray ([.int .i64 id, .int .i64 n, .int .i64 o0, .int .i64 o1, .int .i64 o2, .int .i64 o3, .int .i64 o4, .int .i64 o5, .int .i64 o6, .int .i64 o7, .int .i64 o8, .int .i64 o9, .int .i64 o10, .int .i64 o11, .int .i64 o12, .int .i64 o13, .slice none 0 0, .int .i64 mt] : List Value)).all (·.oneCell') = true) := all_oneCell_toArray (by intro v hv; simp only [List.mem_cons, List.not_mem_nil, or_false] at hv; rcases hv with rfl | rfl | rfl | rfl | rfl | rfl | rfl | rfl | rfl | rfl | rfl | rfl | rfl | rfl | rfl | rfl | rfl | rfl <;> rfl)
  have HT12 := Lib.hid (boxThere z11 41 18 (by rw [n11]; omega))
  have z12 := BoxF.puts [.int .i64 id, .int .i64 n, .int .i64 o0, .int .i64 o1, .int .i64 o2, .int .i64 o3, .int .i64 o4, .int .i64 o5, .int .i64 o6, .int .i64 o7, .int .i64 o8, .int .i64 o9, .int .i64 o10, .int .i64 o11, .int .i64 o12, .int .i64 o13, .slice none 0 0, .int .i64 mt] 41 z11 (by rw [n11]; simp)
  have HB12 : Hid (Below w9.heap.size w10 (w11.setCells w9.heap.size 41 [.int .i64 id, .int .i64 n, .int .i64 o0, .int .i64 o1, .int .i64 o2, .int .i64 o3, .int .i64 o4, .int .i64 o5, .int .i64 o6, .int .i64 o7, .int .i64 o8, .int .i64 o9, .int .i64 o10, .int .i64 o11, .int .i64 o12, .int .i64 o13, .slice none 0 0, .int .i64 mt])) := setCells_below (Nat.le_refl _) _ _ _ _ HB11.out
  obtain ⟨w12, hw12⟩ : ∃ w12, w11.setCells w9.heap.size 41 [.int .i64 id, .int .i64 n, .int .i64 o0, .int .i64 o1, .int .i64 o2, .int .i64 o3, .int .i64 o4, .int .i64 o5, .int .i64 o6, .int .i64 o7, .int .i64 o8, .int .i64 o9, .int .i64 o10, .int .i64 o11, .int .i64 o12, .int .i64 o13, .slice none 0 0, .int .i64 mt] = w12 := ⟨_, rfl⟩
  obtain ⟨L12, hL12⟩ : ∃ L, putL L10 41 [.int .i64 id, .int .i64 n, .int .i64 o0, .int .i64 o1, .int .i64 o2, .int .i64 o3, .int .i64 o4, .int .i64 o5, .int .i64 o6, .int .i64 o7, .int .i64 o8, .int .i64 o9, .int .i64 o10, .int .i64 o11, .int .i64 o12, .int .i64 o13, .slice none 0 0, .int .i64 mt] = L := ⟨_, rfl⟩
  have n12 : L12.length = 173 := by rw [← hL12, putL_len, n11]
  rw [hw12] at z12 HB12
  rw [hL12] at z12
  have H12 := Lib.hid (And.intro z12 n12)
  have HL12 := Lib.hid hL12
  have HW12 := Lib.hid hw12
  clear hL12 hw12
  clear z11 z12 hb11 h910
  refine ⟨HB11.out, by rfl, ?_⟩
  go_simp
  refine ⟨HB11.out, by rfl, ?_⟩
  go_simp
  refine ⟨HB11.out, by rfl, ?_⟩
  go_simp
  refine ⟨HB11.out, by rfl, ?_⟩
  refine wp_store_mid _ _ _ rfl w9.heap.size 41 _ rfl rfl HT12.out (by kernel_rfl) HO12.out ?_
  rw [show w11.setCells w9.heap.size 41 (Array.toList (List.toArray [.int .i64 id, .int .i64 n, .int .i64 o0, .int .i64 o1, .int .i64 o2, .int .i64 o3, .int .i64 o4, .int .i64 o5, .int .i64 o6, .int .i64 o7, .int .i64 o8, .int .i64 o9, .int .i64 o10, .int .i64 o11, .int .i64 o12, .int .i64 o13, .slice none 0 0, .int .i64 mt])) = w12 from HW12.out]
  refine ⟨HB12.out, ?_⟩
  refine wpMid_nil ?_
  have HS12 : Hid (∀ W, Below w9.heap.size w12 W → BoxF W w.heap.size [.int .i64 n, .slice A l k, .int .i64 f, .int .i64 dmin, .int .i64 dmax, .int .i64 rho, .int .i64 slew, .int .i64 round, .int .i64 window, .int .i64 attend, .int .i64 seen, .int .i64 hist, .int .i64 fly, .int .i64 quota, .int .i64 body] ∧ BoxF W w6.heap.size [.int .i64 o0, .int .i64 o1, .int .i64 o2, .int .i64 o3, .int .i64 o4, .int .i64 o5, .int .i64 o6, .int .i64 o7, .int .i64 o8, .int .i64 o9, .int .i64 o10, .int .i64 o11, .int .i64 o12, .int .i64 o13] ∧ BoxF W w2.heap.size [.int .i64 n, .slice A2 l k2]) := fun W hW => HS10.out W (HB12.out.trans hW)
  have HD12 : Hid (Below w9.heap.size w12 w12.drew) := (Below.refl _ _).drew
  have C_dh := fun (W : World) => rHistNew hist o11 W
  obtain ⟨dh, hdh⟩ : ∃ dh, clampI o11 0 1152921504606846976 = dh := ⟨_, rfl⟩
  obtain ⟨mh, hmh⟩ : ∃ mh, min (max hist 0) 65536 = mh := ⟨_, rfl⟩
  rw [hdh, hmh] at C_dh
  have C_dh := Lib.hid C_dh
  have HD12c : Hid (Below w9.heap.size w10 w12.drew) := HB12.out.drew
  clear hdh hmh
  go_wp2_with fail
  refine wp_region_perm [] [0, 1, 2, 3, 4, 5, 6, 8, 9, 10, 11, 13, 14] [7, 12, 15, 16, 17, 18, 19, 20, 21, 22, 23, 24] 25 30 (fun W => Below w9.heap.size w10 W) (by kernel_rfl) (by kernel_rfl) (by intro c a t v w h; exact h) HD12c.out ?_
  simp only [pickL, List.drop_succ_cons, List.drop_zero, List.head?_cons, Option.toList_some, List.cons_append, List.nil_append]
  refine wpHead_nil ?_
  iterate 13 (refine wpHead_step _ (by rfl) (by intro W hW; obtain ⟨zc, zb, zg⟩ := HS10.out W hW; have z0 := zc.1 0 _ rfl; have z1 := zc.1 1 _ rfl; have z2 := zc.1 2 _ rfl; have z3 := zc.1 3 _ rfl; have z4 := zc.1 4 _ rfl; have z5 := zc.1 5 _ rfl; have z6 := zc.1 6 _ rfl; have z7 := zc.1 7 _ rfl; have z8 := zc.1 8 _ rfl; have z9 := zc.1 9 _ rfl; have z10 := zc.1 10 _ rfl; have z11 := zc.1 11 _ rfl; have z12 := zc.1 12 _ rfl; have z13 := zc.1 13 _ rfl; have z14 := zc.1 14 _ rfl; have y0 := zb.1 0 _ rfl; have y1 := zb.1 1 _ rfl; have y2 := zb.1 2 _ rfl; have y3 := zb.1 3 _ rfl; have y4 := zb.1 4 _ rfl; have y5 := zb.1 5 _ rfl; have y6 := zb.1 6 _ rfl; have y7 := zb.1 7 _ rfl; have y8 := zb.1 8 _ rfl; have y9 := zb.1 9 _ rfl; have y10 := zb.1 10 _ rfl; have y11 := zb.1 11 _ rfl; have y12 := zb.1 12 _ rfl; have y13 := zb.1 13 _ rfl; have x0 := zg.1 0 _ rfl; have x1 := zg.1 1 _ rfl; clear zc zb zg hW; go_simp; with_reducible rfl) ?_; simp only [Act.put, List.setIfInBounds_toArray, List.set_cons_zero, List.set_cons_succ])
  refine wpHead_nil ?_
  refine ⟨by rfl, ?_⟩
  go_simp
  go_at_call 31
  refine (C_dh.out _).mono ?_
  rintro e w13 ⟨rfl, hb13⟩
  replace hb13 : Below w12.heap.size w12 w13 := (show Below w12.heap.size w12 w12.drew from (Below.refl _ _).drew).trans hb13
  have HB13 : Hid (Below w9.heap.size w10 w13) := HB12.out.trans (hb13.mono (Nat.le_of_lt (H12.out.1.lt (by rw [H12.out.2]; omega))))
  have H13 := Lib.hid (And.intro (H12.out.1.keep hb13) H12.out.2)
  clear hb13
  refine ⟨HB13.out, by rfl, ?_⟩
  go_simp
  go_at_call 32
  refine (C_q.out _).mono ?_
  rintro e w14 ⟨rfl, hb14⟩
  have HB14 : Hid (Below w9.heap.size w10 w14) := HB13.out.trans (hb14.mono (Nat.le_of_lt (H13.out.1.lt (by rw [H13.out.2]; omega))))
  have H14 := Lib.hid (And.intro (H13.out.1.keep hb14) H13.out.2)
  clear hb14
  refine ⟨HB14.out, by rfl, ?_⟩
  go_simp
  go_at_call 33
  refine (C_mr.out _).mono ?_
  rintro e w15 ⟨rfl, hb15⟩
  have HB15 : Hid (Below w9.heap.size w10 w15) := HB14.out.trans (hb15.mono (Nat.le_of_lt (H14.out.1.lt (by rw [H14.out.2]; omega))))
  have z15 := H14.out.1.keep hb15
  have n15 := H14.out.2
  have HO16 : Hid ((List.toArray ([.slice none 0 0, .int .i64 mh, .int .i64 dh, .int .i64 0, .int .i64 0, .int .u32 0, .bool false] : List Value)).all (·.oneCell') = true) := all_oneCell_toArray (by intro v hv; simp only [List.mem_cons, List.not_mem_nil, or_false] at hv; rcases hv with rfl | rfl | rfl | rfl | rfl | rfl | rfl <;> rfl)
  have HT16 := Lib.hid (boxThere z15 59 7 (by rw [n15]; omega))
  have z16 := BoxF.puts [.slice none 0 0, .int .i64 mh, .int .i64 dh, .int .i64 0, .int .i64 0, .int .u32 0, .bool false] 59 z15 (by rw [n15]; simp)
  have HB16 : Hid (Below w9.heap.size w10 (w15.setCells w9.heap.size 59 [.slice none 0 0, .int .i64 mh, .int .i64 dh, .int .i64 0, .int .i64 0, .int .u32 0, .bool false])) := setCells_below (Nat.le_refl _) _ _ _ _ HB15.out
  obtain ⟨w16, hw16⟩ : ∃ w16, w15.setCells w9.heap.size 59 [.slice none 0 0, .int .i64 mh, .int .i64 dh, .int .i64 0, .int .i64 0, .int .u32 0, .bool false] = w16 := ⟨_, rfl⟩
  obtain ⟨L16, hL16⟩ : ∃ L, putL L12 59 [.slice none 0 0, .int .i64 mh, .int .i64 dh, .int .i64 0, .int .i64 0, .int .u32 0, .bool false] = L := ⟨_, rfl⟩
  have n16 : L16.length = 173 := by rw [← hL16, putL_len, n15]
  rw [hw16] at z16 HB16
  rw [hL16] at z16
  have H16 := Lib.hid (And.intro z16 n16)
  have HL16 := Lib.hid hL16
  have HW16 := Lib.hid hw16
  clear hL16 hw16
  have HO17 : Hid ((List.toArray ([.int .i64 q0, .int .i64 q1, .int .i64 0] : List Value)).all (·.oneCell') = true) := all_oneCell_toArray (by intro v hv; simp only [List.mem_cons, List.not_mem_nil, or_false] at hv; rcases hv with rfl | rfl | rfl <;> rfl)
  have HT17 := Lib.hid (boxThere z16 66 3 (by rw [n16]; omega))
  have z17 := BoxF.puts [.int .i64 q0, .int .i64 q1, .int .i64 0] 66 z16 (by rw [n16]; simp)
  have HB17 : Hid (Below w9.heap.size w10 (w16.setCells w9.heap.size 66 [.int .i64 q0, .int .i64 q1, .int .i64 0])) := setCells_below (Nat.le_refl _) _ _ _ _ HB16.out
  obtain ⟨w17, hw17⟩ : ∃ w17, w16.setCells w9.heap.size 66 [.int .i64 q0, .int .i64 q1, .int .i64 0] = w17 := ⟨_, rfl⟩
  obtain ⟨L17, hL17⟩ : ∃ L, putL L16 66 [.int .i64 q0, .int .i64 q1, .int .i64 0] = L := ⟨_, rfl⟩
  have n17 : L17.length = 173 := by rw [← hL17, putL_len, n16]
  rw [hw17] at z17 HB17
  rw [hL17] at z17
  have H17 := Lib.hid (And.intro z17 n17)
  have HL17 := Lib.hid hL17
  have HW17 := Lib.hid hw17
  clear hL17 hw17
  have HO18 : Hid ((List.toArray ([.slice none 0 0, .int .i64 mr] : List Value)).all (·.oneCell') = true) := all_oneCell_toArray (by intro v hv; simp only [List.mem_cons, List.not_mem_nil, or_false] at hv; rcases hv with rfl | rfl <;> rfl)
  have HT18 := Lib.hid (boxThere z17 69 2 (by rw [n17]; omega))
  have z18 := BoxF.puts [.slice none 0 0, .int .i64 mr] 69 z17 (by rw [n17]; simp)
  have HB18 : Hid (Below w9.heap.size w10 (w17.setCells w9.heap.size 69 [.slice none 0 0, .int .i64 mr])) := setCells_below (Nat.le_refl _) _ _ _ _ HB17.out
  obtain ⟨w18, hw18⟩ : ∃ w18, w17.setCells w9.heap.size 69 [.slice none 0 0, .int .i64 mr] = w18 := ⟨_, rfl⟩
  obtain ⟨L18, hL18⟩ : ∃ L, putL L17 69 [.slice none 0 0, .int .i64 mr] = L := ⟨_, rfl⟩
  have n18 : L18.length = 173 := by rw [← hL18, putL_len, n17]
  rw [hw18] at z18 HB18
  rw [hL18] at z18
  have H18 := Lib.hid (And.intro z18 n18)
  have HL18 := Lib.hid hL18
  have HW18 := Lib.hid hw18
  clear hL18 hw18
  clear hb15 z15 z16 z17 z18
  refine ⟨HB15.out, by rfl, ?_⟩
  go_simp
  refine ⟨HB15.out, by rfl, ?_⟩
  go_simp
  refine ⟨HB15.out, by rfl, ?_⟩
  refine wp_store_mid _ _ _ rfl w9.heap.size 59 _ rfl rfl HT16.out (by kernel_rfl) HO16.out ?_
  rw [show w15.setCells w9.heap.size 59 (Array.toList (List.toArray [.slice none 0 0, .int .i64 mh, .int .i64 dh, .int .i64 0, .int .i64 0, .int .u32 0, .bool false])) = w16 from HW16.out]
  refine ⟨HB16.out, by rfl, ?_⟩
  go_simp
  refine ⟨HB16.out, by rfl, ?_⟩
  go_simp
  refine ⟨HB16.out, by rfl, ?_⟩
  refine wp_store_mid _ _ _ rfl w9.heap.size 66 _ rfl rfl HT17.out (by kernel_rfl) HO17.out ?_
  rw [show w16.setCells w9.heap.size 66 (Array.toList (List.toArray [.int .i64 q0, .int .i64 q1, .int .i64 0])) = w17 from HW17.out]
  refine ⟨HB17.out, by rfl, ?_⟩
  go_simp
  refine ⟨HB17.out, by rfl, ?_⟩
  go_simp
  refine ⟨HB17.out, by rfl, ?_⟩
  refine wp_store_mid _ _ _ rfl w9.heap.size 69 _ rfl rfl HT18.out (by kernel_rfl) HO18.out ?_
  rw [show w17.setCells w9.heap.size 69 (Array.toList (List.toArray [.slice none 0 0, .int .i64 mr])) = w18 from HW18.out]
  refine ⟨HB18.out, ?_⟩
  refine wpMid_nil ?_
  have q18 := HS10.out _ HB18.out
  have e9 := q18.1.1 9 _ rfl
  have e11 := q18.2.1.1 11 _ rfl
  clear q18
  go_wp2_with fail
  refine (C_p.out _).mono ?_
  rintro e w19 ⟨rfl, hb19⟩
  have HB19 : Hid (Below w9.heap.size w10 w19) := HB18.out.trans (hb19.mono (Nat.le_of_lt (H18.out.1.lt (by rw [H18.out.2]; omega))))
  have H19 := Lib.hid (And.intro (H18.out.1.keep hb19) H18.out.2)
  clear hb19
  go_wp2_with fail
  refine (rJoinNew _).mono ?_
  rintro e w20 ⟨rfl, hb20⟩
  have HB20 : Hid (Below w9.heap.size w10 w20) := HB19.out.trans (hb20.mono (Nat.le_of_lt (H19.out.1.lt (by rw [H19.out.2]; omega))))
  have z20 := H19.out.1.keep hb20
  have n20 := H19.out.2
  obtain ⟨u72, v72⟩ := boxSome z20 (k := 72) (by rw [n20]; omega)
  have g72 := z20.2 72 (by rw [n20]; omega)
  obtain ⟨u73, v73⟩ := boxSome z20 (k := 73) (by rw [n20]; omega)
  have g73 := z20.2 73 (by rw [n20]; omega)
  have z21 := BoxF.puts [.int .i64 p0, .int .i64 p1] 72 z20 (by rw [n20]; simp)
  have HB21 : Hid (Below w9.heap.size w10 (w20.setCells w9.heap.size 72 [.int .i64 p0, .int .i64 p1])) := setCells_below (Nat.le_refl _) _ _ _ _ HB20.out
  obtain ⟨w21, hw21⟩ : ∃ w21, w20.setCells w9.heap.size 72 [.int .i64 p0, .int .i64 p1] = w21 := ⟨_, rfl⟩
  obtain ⟨L21, hL21⟩ : ∃ L, putL L18 72 [.int .i64 p0, .int .i64 p1] = L := ⟨_, rfl⟩
  have n21 : L21.length = 173 := by rw [← hL21, putL_len, n20]
  rw [hw21] at z21 HB21
  rw [hL21] at z21
  have H21 := Lib.hid (And.intro z21 n21)
  have HL21 := Lib.hid hL21
  clear hL21
  simp only [World.setCells, Nat.reduceAdd] at hw21
  obtain ⟨u74, v74⟩ := boxSome z21 (k := 74) (by rw [n21]; omega)
  have g74 := z21.2 74 (by rw [n21]; omega)
  obtain ⟨u75, v75⟩ := boxSome z21 (k := 75) (by rw [n21]; omega)
  have g75 := z21.2 75 (by rw [n21]; omega)
  obtain ⟨u76, v76⟩ := boxSome z21 (k := 76) (by rw [n21]; omega)
  have g76 := z21.2 76 (by rw [n21]; omega)
  have z22 := BoxF.puts [.int .i64 0, .int .i64 (-1), .int .i64 0] 74 z21 (by rw [n21]; simp)
  have HB22 : Hid (Below w9.heap.size w10 (w21.setCells w9.heap.size 74 [.int .i64 0, .int .i64 (-1), .int .i64 0])) := setCells_below (Nat.le_refl _) _ _ _ _ HB21.out
  obtain ⟨w22, hw22⟩ : ∃ w22, w21.setCells w9.heap.size 74 [.int .i64 0, .int .i64 (-1), .int .i64 0] = w22 := ⟨_, rfl⟩
  obtain ⟨L22, hL22⟩ : ∃ L, putL L21 74 [.int .i64 0, .int .i64 (-1), .int .i64 0] = L := ⟨_, rfl⟩
  have n22 : L22.length = 173 := by rw [← hL22, putL_len, n21]
  rw [hw22] at z22 HB22
  rw [hL22] at z22
  have H22 := Lib.hid (And.intro z22 n22)
  have HL22 := Lib.hid hL22
  clear hL22
  simp only [World.setCells, Nat.reduceAdd] at hw22
  have z22b := H22.out.1
  rw [← HL22.out, ← HL21.out, ← HL18.out, ← HL17.out, ← HL16.out, ← HL12.out, ← HL10.out] at z22b
  have HF : Hid (RNdPost ⟨n, f, dmin, dmax, rho, slew, round, window, attend, seen, hist, fly, quota, body⟩ L id w (.returned (.tuple #[.pointer (some ⟨w9.heap.size, 0, none⟩), .int .i64 0])) w22) :=
    HP.out w22 w9.heap.size (H10.out.2.1.trans (HB22.out.mono (Nat.le_of_lt H10.out.2.2.1))) (refNd_of _ _ _ _ _ _ _ _ _ _ _ _ _ _ _ _ _ _ _ _ _ _ _ _ _ _ _ _ _ _ _ _ _ _ _ _ _ _ _ _ _ _ _ _ _ z22b)
  clear hb20 z20 z21 z22 z22b
  go_wp2
  go_ret2
  exact HF.out
end Go.Proofs.YtfkfheddhnjaaaaGreat
