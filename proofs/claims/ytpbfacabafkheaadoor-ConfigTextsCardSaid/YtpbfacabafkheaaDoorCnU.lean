/- A configuration's graph is kept small. -/
import Derived.Test.YtpbfacabafkheaaDoorCnF
import Derived.Test.YtpbfacabafkheaaDoorBase
namespace Go.Proofs.YtpbfacabafkheaaDoor
open Go.RowKit Law
set_option linter.unusedVariables false
set_option linter.unusedSimpArgs false
set_option maxRecDepth 100000
attribute [local go_sem] Oper.semAt_some

def cutN (n : Int) : Int := if 8 < n ∧ n ≤ 64 then 2 + n % 7 else n
def cutC (c : Cn) : Cn := { c with n := cutN c.n }
theorem cutN_small {n : Int} (h : n ≤ 64) : cutN n < 9 := by unfold cutN; split <;> omega
theorem cutN_err {n : Int} {L : List Pr} (h : gErr (cutN n) L = 0) : cutN n < 9 := by
  have := (gErr_zero h).2.1
  by_cases h64 : n ≤ 64
  · exact cutN_small h64
  · unfold cutN at *; split at this <;> omega
theorem LinksAt.flat {w : World} {A : Option Addr} {L : List Pr} (h : LinksAt w A L) : ∀ ad, A = some ad → ∀ j u, (flatP L)[j]? = some u → w.cell? (ad.add j) = some u := by
  intro ad had j u hu
  have hlen : (flatP L).length = L.length * 2 := by
    clear h hu
    induction L with
    | nil => rfl
    | cons x r ih =>
      have : flatP (x :: r) = Pr.cells x ++ flatP r := by simp [flatP]
      rw [this, List.length_append, ih, List.length_cons]
      simp [Pr.cells]; omega
  have hj : j < (flatP L).length := (List.getElem?_eq_some_iff.1 hu).1
  have hk : j / 2 < L.length := by omega
  obtain ⟨b, off, hA, hlt, hc⟩ := h (j / 2) L[j / 2] (List.getElem?_eq_getElem hk)
  rw [had] at hA
  injection hA with hA
  subst hA
  have hm : j % 2 < 2 := by omega
  obtain ⟨v, hv⟩ : ∃ v, (Pr.cells L[j / 2])[j % 2]? = some v := ⟨_, List.getElem?_eq_getElem (show j % 2 < 2 from hm)⟩
  have h1 := flatP_at L (j / 2) (j % 2) _ v (List.getElem?_eq_getElem hk) hv
  rw [show j / 2 * 2 + j % 2 = j by omega, hu] at h1
  injection h1 with h1
  have h2 := hc (j % 2) v hv
  rw [Lib.add_plain, h1, ← h2]
  congr 2
  omega
theorem flatP_one {L : List Pr} : ∀ u ∈ flatP L, u.oneCell' = true := by
  intro u hu
  unfold flatP at hu
  obtain ⟨p, _, hp⟩ := List.mem_flatMap.1 hu
  simp only [Pr.cells, List.mem_cons, List.not_mem_nil, or_false] at hp
  rcases hp with rfl | rfl <;> rfl
theorem flatP_len (L : List Pr) : (flatP L).length = L.length * 2 := by
  induction L with
  | nil => rfl
  | cons x r ih =>
    have : flatP (x :: r) = Pr.cells x ++ flatP r := by simp [flatP]
    rw [this, List.length_append, ih, List.length_cons]
    simp [Pr.cells]; omega
theorem set_links {A : Option Addr} {L : List Pr} {B : Nat} (hA : ∀ b off, A = some ⟨b, off, none⟩ → B ≠ b) {W : World} (j : Nat) (v : Value) (h : LinksAt W A L) : LinksAt (W.setCell ⟨B, j, none⟩ v) A L := storeN_links hA [v] W j h
def CutPost (c : Cn) (L : List Pr) (w : World) (e : Ending) (w' : World) : Prop := ∃ A l k, e = .returned (.agg ((cutC c).cells A l k).toArray) ∧ l = (L.take 40).length ∧ l ≤ k ∧ LinksAt w' A (L.take 40) ∧ Below w.heap.size w w' ∧ ∀ b off, A = some ⟨b, off, none⟩ → w.heap.size ≤ b
set_option maxHeartbeats 6400000 in
theorem cut48a (c : Cn) (hn : 8 < c.n ∧ c.n ≤ 64) {len : Nat} (A : Option Addr) (k : Nat) (L : List Pr) (hl : L.length = len) (hc : len ≤ k) (hm : k ≤ maxLen) (hnil : A = none → k = 0) (w : World) (hA : LinksAt w A L) :
    Calls Tryd.prog 7 #[.agg (c.cells A len k).toArray] w (CutPost c L w) := by
  obtain ⟨hz, hsz⟩ := zero_of_info (show (Tryd.prog.info? 24).map (fun i => (i.zero, i.size)) = some (some (.agg #[.int .i64 0, .slice none 0 0, .int .i64 0, .int .i64 0, .int .i64 0, .int .i64 0, .int .i64 0, .int .i64 0, .int .i64 0, .int .i64 0, .int .i64 0, .int .i64 0, .int .i64 0, .int .i64 0, .int .i64 0]), 15) by kernel_rfl)
  unfold maxLen at hm
  obtain ⟨n0, hn0⟩ : ∃ n0 : Nat, min (len : Int) 40 = (n0 : Int) ∧ n0 ≤ len ∧ n0 ≤ 40 ∧ (L.take 40).length = n0 := ⟨min len 40, by omega, by omega, by omega, by rw [List.length_take, hl]; omega⟩
  have hmin := hn0.1
  have hmax : max (n0 : Int) 0 = (n0 : Int) := by omega
  have HN := Lib.hid hn0
  have HCN : Hid (cutC c = { c with n := 2 + c.n % 7 }) := by unfold Hid cutC cutN; rw [if_pos hn]
  have HPOST : Hid (∀ A l k e w', e = .returned (.agg ((cutC c).cells A l k).toArray) → l = (L.take 40).length → l ≤ k → LinksAt w' A (L.take 40) → Below w.heap.size w w' → (∀ b off, A = some ⟨b, off, none⟩ → w.heap.size ≤ b) → CutPost c L w e w') := fun A l k e w' h1 h2 h3 h4 h5 h6 => ⟨A, l, k, h1, h2, h3, h4, h5, h6⟩
  rw [HCN.out] at HPOST
  clear hn0 HCN hl
  obtain ⟨i0, hi, hz0, hz1, hz2⟩ := info_parts prInfo
  obtain ⟨n, f, dmin, dmax, rho, slew, round, window, attend, seen, hist, fly, quota, body⟩ := c
  have hn1 : 8 < n := hn.1
  have hn64 : n ≤ 64 := hn.2
  clear hn
  have k0 := boxF_made w [.int .i64 n, .slice A len k, .int .i64 f, .int .i64 dmin, .int .i64 dmax, .int .i64 rho, .int .i64 slew, .int .i64 round, .int .i64 window, .int .i64 attend, .int .i64 seen, .int .i64 hist, .int .i64 fly, .int .i64 quota, .int .i64 body] 24
  have k1 := (Below.refl w.heap.size w).alloc (Nat.le_refl _) (.cells #[.int .i64 n, .slice A len k, .int .i64 f, .int .i64 dmin, .int .i64 dmax, .int .i64 rho, .int .i64 slew, .int .i64 round, .int .i64 window, .int .i64 attend, .int .i64 seen, .int .i64 hist, .int .i64 fly, .int .i64 quota, .int .i64 body] 24)
  obtain ⟨w1, hw1⟩ : ∃ w1, w.alloc (.cells #[.int .i64 n, .slice A len k, .int .i64 f, .int .i64 dmin, .int .i64 dmax, .int .i64 rho, .int .i64 slew, .int .i64 round, .int .i64 window, .int .i64 attend, .int .i64 seen, .int .i64 hist, .int .i64 fly, .int .i64 quota, .int .i64 body] 24) = w1 := ⟨_, rfl⟩
  have hs1 : w1.heap.size = w.heap.size + 1 := by rw [← hw1]; simp
  rw [hw1] at k0 k1
  have k2 := boxF_made w1 [.int .i64 0, .slice none 0 0, .int .i64 0, .int .i64 0, .int .i64 0, .int .i64 0, .int .i64 0, .int .i64 0, .int .i64 0, .int .i64 0, .int .i64 0, .int .i64 0, .int .i64 0, .int .i64 0, .int .i64 0] 24
  have k3 := k0.keep ((Below.refl w1.heap.size w1).alloc (Nat.le_refl _) (.cells #[.int .i64 0, .slice none 0 0, .int .i64 0, .int .i64 0, .int .i64 0, .int .i64 0, .int .i64 0, .int .i64 0, .int .i64 0, .int .i64 0, .int .i64 0, .int .i64 0, .int .i64 0, .int .i64 0, .int .i64 0] 24))
  have k4 := k1.alloc (by rw [hs1]; omega) (.cells #[.int .i64 0, .slice none 0 0, .int .i64 0, .int .i64 0, .int .i64 0, .int .i64 0, .int .i64 0, .int .i64 0, .int .i64 0, .int .i64 0, .int .i64 0, .int .i64 0, .int .i64 0, .int .i64 0, .int .i64 0] 24)
  obtain ⟨w2, hw2⟩ : ∃ w2, w1.alloc (.cells #[.int .i64 0, .slice none 0 0, .int .i64 0, .int .i64 0, .int .i64 0, .int .i64 0, .int .i64 0, .int .i64 0, .int .i64 0, .int .i64 0, .int .i64 0, .int .i64 0, .int .i64 0, .int .i64 0, .int .i64 0] 24) = w2 := ⟨_, rfl⟩
  have hs2 : w2.heap.size = w1.heap.size + 1 := by rw [← hw2]; simp
  rw [hw2] at k2 k3 k4
  have hlt1 : w.heap.size < w1.heap.size := by omega
  have hne1 : w.heap.size ≠ w1.heap.size := by omega
  have hlt2 : w1.heap.size < w2.heap.size := by omega
  have h00 := World.ownsRow_made (base := w2.heap.size) (e := 60) (size := 2) w2 #[] 0 (Nat.le_refl _) (by simp [maxLen]) rfl
  have hb0 : Below w2.heap.size w2 (w2.alloc (.cells #[] 60)) := (Below.refl _ _).alloc (Nat.le_refl _) _
  have hA0 := (hA.take 40).below (k4.trans (hb0.mono k4.size))
  have q1 := ((k3.keep hb0).1 1 _ rfl)
  have HS := Lib.hid (And.intro hs1 hs2)
  clear hs1 hs2 k0 k1
  go_enter Tryd.func7, Tryd.ntmps7
  go_wp2_with (at_builtin; refine wpList_append_copy _ rfl _ _ 22 rfl w2.heap.size 60 i0 _ 2 16 Tryd.underlying22 hi hz0 hz1 hz2 rfl (by decide) _ _ _ rfl h00 A n0 k (flatP (L.take 40)) rfl ?c0 ?c1 ?c2 ?c3 ?c4 ?c5 ?c6 ?_)
  case c0 => intro hx; have := hnil hx; have := HN.out; omega
  case c1 => rw [flatP_len, HN.out.2.2.2]
  case c2 => exact hA0.flat
  case c3 => exact flatP_one
  case c4 => have := HN.out; unfold maxLen; omega
  case c5 => have := HN.out; omega
  intro v' w3 row hown hgrow hrow
  have hb3 : Below w2.heap.size w2 w3 := hb0.grown hgrow (by simp) hrow
  have hown : w3.ownsRow w2.heap.size 60 2 v' n0 (flatP (L.take 40)) := by simpa using hown
  obtain ⟨A1, c1, rfl, hc1⟩ := own_form2 hown
  have hLA := ownLinks hown
  have hAB0 : ∀ b off, A1 = some ⟨b, off, none⟩ → w.heap.size ≠ b := fun b off hA => by
    have := own_base hown b off hA
    omega
  have hAB1 : ∀ b off, A1 = some ⟨b, off, none⟩ → w1.heap.size ≠ b := fun b off hA => by
    have := own_base hown b off hA
    omega
  have HAB := Lib.hid (fun b off hA => show w.heap.size ≤ b from by have := own_base hown b off hA; omega)
  have r0 := (k3.keep hb3)
  have r1 := (k2.keep hb3)
  have hb03 := k4.trans (hb3.mono k4.size)
  clear hown hgrow hrow hA0 hA h00 hb0 hnil q1 k2 k3 k4 hb3
  have p0 := r0.put 1 (by simp) (.slice A1 n0 c1)
  have p1 := r1.other (a := ⟨w.heap.size, 1, none⟩) hne1 (.slice A1 n0 c1)
  have p2 := set_links hAB0 1 (.slice A1 n0 c1) hLA
  have p3 := hb03.setCell (p := ⟨w.heap.size, 1, none⟩) (Nat.le_refl _) (.slice A1 n0 c1)
  have g1 := r0.1 1 _ rfl
  have f1 := r0.2 1 (by simp)
  obtain ⟨w4, hw4⟩ : ∃ w4, w3.setCell ⟨w.heap.size, 1, none⟩ (.slice A1 n0 c1) = w4 := ⟨_, rfl⟩
  rw [hw4] at p0 p1 p2 p3
  simp only [List.set_cons_succ, List.set_cons_zero] at p0
  obtain ⟨n2, hn2⟩ : ∃ n2, 2 + n % 7 = n2 := ⟨_, rfl⟩
  have hn3 : 2 ≤ n2 ∧ n2 ≤ 8 := by omega
  have hn4 : n.tmod 7 = n % 7 := Int.tmod_eq_emod_of_nonneg (by omega)
  rw [hn2] at HPOST
  have p0' := p0.1 0 _ rfl
  have f0' := p0.2 0 (by simp)
  have y0 := p0.put 0 (by simp) (.int .i64 n2)
  have y1 := p1.other (a := ⟨w.heap.size, 0, none⟩) hne1 (.int .i64 n2)
  have y2 := set_links hAB0 0 (.int .i64 n2) p2
  have y3 := p3.setCell (p := ⟨w.heap.size, 0, none⟩) (Nat.le_refl _) (.int .i64 n2)
  obtain ⟨wY, hwY⟩ : ∃ wY, w4.setCell ⟨w.heap.size, 0, none⟩ (.int .i64 n2) = wY := ⟨_, rfl⟩
  rw [hwY] at y0 y1 y2 y3
  simp only [List.set_cons_zero] at y0
  clear p0 p1 p2 p3
  have zp := storeN_box w1.heap.size [.int .i64 n2, .slice A1 n0 c1, .int .i64 f, .int .i64 dmin, .int .i64 dmax, .int .i64 rho, .int .i64 slew, .int .i64 round, .int .i64 window, .int .i64 attend, .int .i64 seen, .int .i64 hist, .int .i64 fly, .int .i64 quota, .int .i64 body] wY [] [.int .i64 0, .slice none 0 0, .int .i64 0, .int .i64 0, .int .i64 0, .int .i64 0, .int .i64 0, .int .i64 0, .int .i64 0, .int .i64 0, .int .i64 0, .int .i64 0, .int .i64 0, .int .i64 0, .int .i64 0] rfl y1
  have zq := storeN_below (N := w.heap.size) w1.heap.size (Nat.le_of_lt hlt1) [.int .i64 n2, .slice A1 n0 c1, .int .i64 f, .int .i64 dmin, .int .i64 dmax, .int .i64 rho, .int .i64 slew, .int .i64 round, .int .i64 window, .int .i64 attend, .int .i64 seen, .int .i64 hist, .int .i64 fly, .int .i64 quota, .int .i64 body] w wY 0 y3
  have zl := storeN_links hAB1 [.int .i64 n2, .slice A1 n0 c1, .int .i64 f, .int .i64 dmin, .int .i64 dmax, .int .i64 rho, .int .i64 slew, .int .i64 round, .int .i64 window, .int .i64 attend, .int .i64 seen, .int .i64 hist, .int .i64 fly, .int .i64 quota, .int .i64 body] wY 0 y2
  obtain ⟨wf, hwf⟩ : ∃ wf, storeN w1.heap.size wY [.int .i64 n2, .slice A1 n0 c1, .int .i64 f, .int .i64 dmin, .int .i64 dmax, .int .i64 rho, .int .i64 slew, .int .i64 round, .int .i64 window, .int .i64 attend, .int .i64 seen, .int .i64 hist, .int .i64 fly, .int .i64 quota, .int .i64 body] 0 = wf := ⟨_, rfl⟩
  rw [show ([] : List Value).length = 0 from rfl, List.nil_append, hwf] at zp
  rw [hwf] at zq zl
  simp only [storeN, Nat.reduceAdd] at hwf
  have c0_ := y0.1 0 _ rfl
  have s0_ := y1.1 0 _ rfl
  have t0_ := y1.2 0 (by simp)
  have e0_ := zp.1 0 _ rfl
  have c1_ := y0.1 1 _ rfl
  have s1_ := y1.1 1 _ rfl
  have t1_ := y1.2 1 (by simp)
  have e1_ := zp.1 1 _ rfl
  have c2_ := y0.1 2 _ rfl
  have s2_ := y1.1 2 _ rfl
  have t2_ := y1.2 2 (by simp)
  have e2_ := zp.1 2 _ rfl
  have c3_ := y0.1 3 _ rfl
  have s3_ := y1.1 3 _ rfl
  have t3_ := y1.2 3 (by simp)
  have e3_ := zp.1 3 _ rfl
  have c4_ := y0.1 4 _ rfl
  have s4_ := y1.1 4 _ rfl
  have t4_ := y1.2 4 (by simp)
  have e4_ := zp.1 4 _ rfl
  have c5_ := y0.1 5 _ rfl
  have s5_ := y1.1 5 _ rfl
  have t5_ := y1.2 5 (by simp)
  have e5_ := zp.1 5 _ rfl
  have c6_ := y0.1 6 _ rfl
  have s6_ := y1.1 6 _ rfl
  have t6_ := y1.2 6 (by simp)
  have e6_ := zp.1 6 _ rfl
  have c7_ := y0.1 7 _ rfl
  have s7_ := y1.1 7 _ rfl
  have t7_ := y1.2 7 (by simp)
  have e7_ := zp.1 7 _ rfl
  have c8_ := y0.1 8 _ rfl
  have s8_ := y1.1 8 _ rfl
  have t8_ := y1.2 8 (by simp)
  have e8_ := zp.1 8 _ rfl
  have c9_ := y0.1 9 _ rfl
  have s9_ := y1.1 9 _ rfl
  have t9_ := y1.2 9 (by simp)
  have e9_ := zp.1 9 _ rfl
  have c10_ := y0.1 10 _ rfl
  have s10_ := y1.1 10 _ rfl
  have t10_ := y1.2 10 (by simp)
  have e10_ := zp.1 10 _ rfl
  have c11_ := y0.1 11 _ rfl
  have s11_ := y1.1 11 _ rfl
  have t11_ := y1.2 11 (by simp)
  have e11_ := zp.1 11 _ rfl
  have c12_ := y0.1 12 _ rfl
  have s12_ := y1.1 12 _ rfl
  have t12_ := y1.2 12 (by simp)
  have e12_ := zp.1 12 _ rfl
  have c13_ := y0.1 13 _ rfl
  have s13_ := y1.1 13 _ rfl
  have t13_ := y1.2 13 (by simp)
  have e13_ := zp.1 13 _ rfl
  have c14_ := y0.1 14 _ rfl
  have s14_ := y1.1 14 _ rfl
  have t14_ := y1.2 14 (by simp)
  have e14_ := zp.1 14 _ rfl
  have HZ := Lib.hid (And.intro zq zl)
  clear zp zq zl y0 y1 y2 y3 hb03 r1 r0 hLA hAB0 hAB1
  go_wp2
  all_goals
    refine bodyPost_ret (v := .agg #[.int .i64 n2, .slice A1 n0 c1, .int .i64 f, .int .i64 dmin, .int .i64 dmax, .int .i64 rho, .int .i64 slew, .int .i64 round, .int .i64 window, .int .i64 attend, .int .i64 seen, .int .i64 hist, .int .i64 fly, .int .i64 quota, .int .i64 body]) (by simp [results, Tryd.results7, go_sem, hz, hsz, e0_, e1_, e2_, e3_, e4_, e5_, e6_, e7_, e8_, e9_, e10_, e11_, e12_, e13_, e14_]) rfl ?_
    exact HPOST.out A1 n0 c1 _ _ rfl HN.out.2.2.2.symm hc1 HZ.out.2 HZ.out.1 HAB.out
set_option maxHeartbeats 6400000 in
theorem cut48b (c : Cn) (hn : ¬ (8 < c.n ∧ c.n ≤ 64)) {len : Nat} (A : Option Addr) (k : Nat) (L : List Pr) (hl : L.length = len) (hc : len ≤ k) (hm : k ≤ maxLen) (hnil : A = none → k = 0) (w : World) (hA : LinksAt w A L) :
    Calls Tryd.prog 7 #[.agg (c.cells A len k).toArray] w (CutPost c L w) := by
  obtain ⟨hz, hsz⟩ := zero_of_info (show (Tryd.prog.info? 24).map (fun i => (i.zero, i.size)) = some (some (.agg #[.int .i64 0, .slice none 0 0, .int .i64 0, .int .i64 0, .int .i64 0, .int .i64 0, .int .i64 0, .int .i64 0, .int .i64 0, .int .i64 0, .int .i64 0, .int .i64 0, .int .i64 0, .int .i64 0, .int .i64 0]), 15) by kernel_rfl)
  unfold maxLen at hm
  obtain ⟨n0, hn0⟩ : ∃ n0 : Nat, min (len : Int) 40 = (n0 : Int) ∧ n0 ≤ len ∧ n0 ≤ 40 ∧ (L.take 40).length = n0 := ⟨min len 40, by omega, by omega, by omega, by rw [List.length_take, hl]; omega⟩
  have hmin := hn0.1
  have hmax : max (n0 : Int) 0 = (n0 : Int) := by omega
  have HN := Lib.hid hn0
  have HCN : Hid (cutC c = { c with n := c.n }) := by unfold Hid cutC cutN; rw [if_neg hn]
  have HPOST : Hid (∀ A l k e w', e = .returned (.agg ((cutC c).cells A l k).toArray) → l = (L.take 40).length → l ≤ k → LinksAt w' A (L.take 40) → Below w.heap.size w w' → (∀ b off, A = some ⟨b, off, none⟩ → w.heap.size ≤ b) → CutPost c L w e w') := fun A l k e w' h1 h2 h3 h4 h5 h6 => ⟨A, l, k, h1, h2, h3, h4, h5, h6⟩
  rw [HCN.out] at HPOST
  clear hn0 HCN hl
  obtain ⟨i0, hi, hz0, hz1, hz2⟩ := info_parts prInfo
  obtain ⟨n, f, dmin, dmax, rho, slew, round, window, attend, seen, hist, fly, quota, body⟩ := c
  have hn1 : n ≤ 8 ∨ 64 < n := by have h : ¬ (8 < n ∧ n ≤ 64) := hn; omega
  clear hn
  have k0 := boxF_made w [.int .i64 n, .slice A len k, .int .i64 f, .int .i64 dmin, .int .i64 dmax, .int .i64 rho, .int .i64 slew, .int .i64 round, .int .i64 window, .int .i64 attend, .int .i64 seen, .int .i64 hist, .int .i64 fly, .int .i64 quota, .int .i64 body] 24
  have k1 := (Below.refl w.heap.size w).alloc (Nat.le_refl _) (.cells #[.int .i64 n, .slice A len k, .int .i64 f, .int .i64 dmin, .int .i64 dmax, .int .i64 rho, .int .i64 slew, .int .i64 round, .int .i64 window, .int .i64 attend, .int .i64 seen, .int .i64 hist, .int .i64 fly, .int .i64 quota, .int .i64 body] 24)
  obtain ⟨w1, hw1⟩ : ∃ w1, w.alloc (.cells #[.int .i64 n, .slice A len k, .int .i64 f, .int .i64 dmin, .int .i64 dmax, .int .i64 rho, .int .i64 slew, .int .i64 round, .int .i64 window, .int .i64 attend, .int .i64 seen, .int .i64 hist, .int .i64 fly, .int .i64 quota, .int .i64 body] 24) = w1 := ⟨_, rfl⟩
  have hs1 : w1.heap.size = w.heap.size + 1 := by rw [← hw1]; simp
  rw [hw1] at k0 k1
  have k2 := boxF_made w1 [.int .i64 0, .slice none 0 0, .int .i64 0, .int .i64 0, .int .i64 0, .int .i64 0, .int .i64 0, .int .i64 0, .int .i64 0, .int .i64 0, .int .i64 0, .int .i64 0, .int .i64 0, .int .i64 0, .int .i64 0] 24
  have k3 := k0.keep ((Below.refl w1.heap.size w1).alloc (Nat.le_refl _) (.cells #[.int .i64 0, .slice none 0 0, .int .i64 0, .int .i64 0, .int .i64 0, .int .i64 0, .int .i64 0, .int .i64 0, .int .i64 0, .int .i64 0, .int .i64 0, .int .i64 0, .int .i64 0, .int .i64 0, .int .i64 0] 24))
  have k4 := k1.alloc (by rw [hs1]; omega) (.cells #[.int .i64 0, .slice none 0 0, .int .i64 0, .int .i64 0, .int .i64 0, .int .i64 0, .int .i64 0, .int .i64 0, .int .i64 0, .int .i64 0, .int .i64 0, .int .i64 0, .int .i64 0, .int .i64 0, .int .i64 0] 24)
  obtain ⟨w2, hw2⟩ : ∃ w2, w1.alloc (.cells #[.int .i64 0, .slice none 0 0, .int .i64 0, .int .i64 0, .int .i64 0, .int .i64 0, .int .i64 0, .int .i64 0, .int .i64 0, .int .i64 0, .int .i64 0, .int .i64 0, .int .i64 0, .int .i64 0, .int .i64 0] 24) = w2 := ⟨_, rfl⟩
  have hs2 : w2.heap.size = w1.heap.size + 1 := by rw [← hw2]; simp
  rw [hw2] at k2 k3 k4
  have hlt1 : w.heap.size < w1.heap.size := by omega
  have hne1 : w.heap.size ≠ w1.heap.size := by omega
  have hlt2 : w1.heap.size < w2.heap.size := by omega
  have h00 := World.ownsRow_made (base := w2.heap.size) (e := 60) (size := 2) w2 #[] 0 (Nat.le_refl _) (by simp [maxLen]) rfl
  have hb0 : Below w2.heap.size w2 (w2.alloc (.cells #[] 60)) := (Below.refl _ _).alloc (Nat.le_refl _) _
  have hA0 := (hA.take 40).below (k4.trans (hb0.mono k4.size))
  have q1 := ((k3.keep hb0).1 1 _ rfl)
  have HS := Lib.hid (And.intro hs1 hs2)
  clear hs1 hs2 k0 k1
  go_enter Tryd.func7, Tryd.ntmps7
  go_wp2_with (at_builtin; refine wpList_append_copy _ rfl _ _ 22 rfl w2.heap.size 60 i0 _ 2 16 Tryd.underlying22 hi hz0 hz1 hz2 rfl (by decide) _ _ _ rfl h00 A n0 k (flatP (L.take 40)) rfl ?c0 ?c1 ?c2 ?c3 ?c4 ?c5 ?c6 ?_)
  case c0 => intro hx; have := hnil hx; have := HN.out; omega
  case c1 => rw [flatP_len, HN.out.2.2.2]
  case c2 => exact hA0.flat
  case c3 => exact flatP_one
  case c4 => have := HN.out; unfold maxLen; omega
  case c5 => have := HN.out; omega
  case c6 => simp
  intro v' w3 row hown hgrow hrow
  have hb3 : Below w2.heap.size w2 w3 := hb0.grown hgrow (by simp) hrow
  have hown : w3.ownsRow w2.heap.size 60 2 v' n0 (flatP (L.take 40)) := by simpa using hown
  obtain ⟨A1, c1, rfl, hc1⟩ := own_form2 hown
  have hLA := ownLinks hown
  have hAB0 : ∀ b off, A1 = some ⟨b, off, none⟩ → w.heap.size ≠ b := fun b off hA => by
    have := own_base hown b off hA
    omega
  have hAB1 : ∀ b off, A1 = some ⟨b, off, none⟩ → w1.heap.size ≠ b := fun b off hA => by
    have := own_base hown b off hA
    omega
  have HAB := Lib.hid (fun b off hA => show w.heap.size ≤ b from by have := own_base hown b off hA; omega)
  have r0 := (k3.keep hb3)
  have r1 := (k2.keep hb3)
  have hb03 := k4.trans (hb3.mono k4.size)
  clear hown hgrow hrow hA0 hA h00 hb0 hnil q1 k2 k3 k4 hb3
  have p0 := r0.put 1 (by simp) (.slice A1 n0 c1)
  have p1 := r1.other (a := ⟨w.heap.size, 1, none⟩) hne1 (.slice A1 n0 c1)
  have p2 := set_links hAB0 1 (.slice A1 n0 c1) hLA
  have p3 := hb03.setCell (p := ⟨w.heap.size, 1, none⟩) (Nat.le_refl _) (.slice A1 n0 c1)
  have g1 := r0.1 1 _ rfl
  have f1 := r0.2 1 (by simp)
  obtain ⟨w4, hw4⟩ : ∃ w4, w3.setCell ⟨w.heap.size, 1, none⟩ (.slice A1 n0 c1) = w4 := ⟨_, rfl⟩
  rw [hw4] at p0 p1 p2 p3
  simp only [List.set_cons_succ, List.set_cons_zero] at p0
  have y0 := p0
  have y1 := p1
  have y2 := p2
  have y3 := p3
  obtain ⟨wY, hwY⟩ : ∃ wY, wY = w4 := ⟨_, rfl⟩
  subst hwY
  clear p0 p1 p2 p3
  have zp := storeN_box w1.heap.size [.int .i64 n, .slice A1 n0 c1, .int .i64 f, .int .i64 dmin, .int .i64 dmax, .int .i64 rho, .int .i64 slew, .int .i64 round, .int .i64 window, .int .i64 attend, .int .i64 seen, .int .i64 hist, .int .i64 fly, .int .i64 quota, .int .i64 body] wY [] [.int .i64 0, .slice none 0 0, .int .i64 0, .int .i64 0, .int .i64 0, .int .i64 0, .int .i64 0, .int .i64 0, .int .i64 0, .int .i64 0, .int .i64 0, .int .i64 0, .int .i64 0, .int .i64 0, .int .i64 0] rfl y1
  have zq := storeN_below (N := w.heap.size) w1.heap.size (Nat.le_of_lt hlt1) [.int .i64 n, .slice A1 n0 c1, .int .i64 f, .int .i64 dmin, .int .i64 dmax, .int .i64 rho, .int .i64 slew, .int .i64 round, .int .i64 window, .int .i64 attend, .int .i64 seen, .int .i64 hist, .int .i64 fly, .int .i64 quota, .int .i64 body] w wY 0 y3
  have zl := storeN_links hAB1 [.int .i64 n, .slice A1 n0 c1, .int .i64 f, .int .i64 dmin, .int .i64 dmax, .int .i64 rho, .int .i64 slew, .int .i64 round, .int .i64 window, .int .i64 attend, .int .i64 seen, .int .i64 hist, .int .i64 fly, .int .i64 quota, .int .i64 body] wY 0 y2
  obtain ⟨wf, hwf⟩ : ∃ wf, storeN w1.heap.size wY [.int .i64 n, .slice A1 n0 c1, .int .i64 f, .int .i64 dmin, .int .i64 dmax, .int .i64 rho, .int .i64 slew, .int .i64 round, .int .i64 window, .int .i64 attend, .int .i64 seen, .int .i64 hist, .int .i64 fly, .int .i64 quota, .int .i64 body] 0 = wf := ⟨_, rfl⟩
  rw [show ([] : List Value).length = 0 from rfl, List.nil_append, hwf] at zp
  rw [hwf] at zq zl
  simp only [storeN, Nat.reduceAdd] at hwf
  have c0_ := y0.1 0 _ rfl
  have s0_ := y1.1 0 _ rfl
  have t0_ := y1.2 0 (by simp)
  have e0_ := zp.1 0 _ rfl
  have c1_ := y0.1 1 _ rfl
  have s1_ := y1.1 1 _ rfl
  have t1_ := y1.2 1 (by simp)
  have e1_ := zp.1 1 _ rfl
  have c2_ := y0.1 2 _ rfl
  have s2_ := y1.1 2 _ rfl
  have t2_ := y1.2 2 (by simp)
  have e2_ := zp.1 2 _ rfl
  have c3_ := y0.1 3 _ rfl
  have s3_ := y1.1 3 _ rfl
  have t3_ := y1.2 3 (by simp)
  have e3_ := zp.1 3 _ rfl
  have c4_ := y0.1 4 _ rfl
  have s4_ := y1.1 4 _ rfl
  have t4_ := y1.2 4 (by simp)
  have e4_ := zp.1 4 _ rfl
  have c5_ := y0.1 5 _ rfl
  have s5_ := y1.1 5 _ rfl
  have t5_ := y1.2 5 (by simp)
  have e5_ := zp.1 5 _ rfl
  have c6_ := y0.1 6 _ rfl
  have s6_ := y1.1 6 _ rfl
  have t6_ := y1.2 6 (by simp)
  have e6_ := zp.1 6 _ rfl
  have c7_ := y0.1 7 _ rfl
  have s7_ := y1.1 7 _ rfl
  have t7_ := y1.2 7 (by simp)
  have e7_ := zp.1 7 _ rfl
  have c8_ := y0.1 8 _ rfl
  have s8_ := y1.1 8 _ rfl
  have t8_ := y1.2 8 (by simp)
  have e8_ := zp.1 8 _ rfl
  have c9_ := y0.1 9 _ rfl
  have s9_ := y1.1 9 _ rfl
  have t9_ := y1.2 9 (by simp)
  have e9_ := zp.1 9 _ rfl
  have c10_ := y0.1 10 _ rfl
  have s10_ := y1.1 10 _ rfl
  have t10_ := y1.2 10 (by simp)
  have e10_ := zp.1 10 _ rfl
  have c11_ := y0.1 11 _ rfl
  have s11_ := y1.1 11 _ rfl
  have t11_ := y1.2 11 (by simp)
  have e11_ := zp.1 11 _ rfl
  have c12_ := y0.1 12 _ rfl
  have s12_ := y1.1 12 _ rfl
  have t12_ := y1.2 12 (by simp)
  have e12_ := zp.1 12 _ rfl
  have c13_ := y0.1 13 _ rfl
  have s13_ := y1.1 13 _ rfl
  have t13_ := y1.2 13 (by simp)
  have e13_ := zp.1 13 _ rfl
  have c14_ := y0.1 14 _ rfl
  have s14_ := y1.1 14 _ rfl
  have t14_ := y1.2 14 (by simp)
  have e14_ := zp.1 14 _ rfl
  have HZ := Lib.hid (And.intro zq zl)
  clear zp zq zl y0 y1 y2 y3 hb03 r1 r0 hLA hAB0 hAB1
  go_wp2
  all_goals
    refine bodyPost_ret (v := .agg #[.int .i64 n, .slice A1 n0 c1, .int .i64 f, .int .i64 dmin, .int .i64 dmax, .int .i64 rho, .int .i64 slew, .int .i64 round, .int .i64 window, .int .i64 attend, .int .i64 seen, .int .i64 hist, .int .i64 fly, .int .i64 quota, .int .i64 body]) (by simp [results, Tryd.results7, go_sem, hz, hsz, e0_, e1_, e2_, e3_, e4_, e5_, e6_, e7_, e8_, e9_, e10_, e11_, e12_, e13_, e14_]) rfl ?_
    exact HPOST.out A1 n0 c1 _ _ rfl HN.out.2.2.2.symm hc1 HZ.out.2 HZ.out.1 HAB.out
theorem cut48 (c : Cn) {len : Nat} (A : Option Addr) (k : Nat) (L : List Pr) (hl : L.length = len) (hc : len ≤ k) (hm : k ≤ maxLen) (hnil : A = none → k = 0) (w : World) (hA : LinksAt w A L) :
    Calls Tryd.prog 7 #[.agg (c.cells A len k).toArray] w (CutPost c L w) := by
  by_cases hn : 8 < c.n ∧ c.n ≤ 64
  · exact cut48a c hn A k L hl hc hm hnil w hA
  · exact cut48b c hn A k L hl hc hm hnil w hA
end Go.Proofs.YtpbfacabafkheaaDoor
