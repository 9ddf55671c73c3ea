/- Of any configuration there is a node, or it is told what is wrong: the law's walk. -/
import Derived.Test.YtfkfheddhnjaaaaGreatNeK
import Derived.Test.YtfkfheddhnjaaaaGreatNeE
import Derived.Test.YtfkfheddhnjaaaaGreatNdW
import Derived.Test.YtfkfheddhnjaaaaGreatLnc
namespace Go.Proofs.YtfkfheddhnjaaaaGreat
open Go.RowKit Law
set_option linter.unusedVariables false
set_option linter.unusedSimpArgs false
set_option maxRecDepth 100000
attribute [local go_sem] Oper.semAt_some

theorem rNd (c : Cn) (A : Option Addr) (l k : Nat) (L : List Pr) (hl : L.length = l) (hm : l ≤ 4000000000) (id hard : Int) (w : World) (hA : LinksAt w A L) :
    Calls Tryz.prog 5 #[.agg (c.cells A l k).toArray, .int .i64 id, .int .i64 hard] w (RNdPost c L id w) := by
  by_cases h1 : gErr c.n L = 0
  · cases h2 : enoughB c
    · exact rNodeB c A l k L hl hm id hard w hA h1 h2
    · by_cases h3 : c.f < 0
      · exact rNodeC c A l k L hl hm id hard w hA h1 h2 h3
      · by_cases h4 : id < 0
        · exact rNodeD c A l k L hl hm id hard w hA h1 h2 h3 (.inl h4)
        · by_cases h5 : c.n ≤ id
          · exact rNodeD c A l k L hl hm id hard w hA h1 h2 h3 (.inr ⟨by omega, h5⟩)
          · exact rNodeE c A l k L hl hm id hard w hA h1 h2 h3 (by omega) h5
  · exact rNodeA c A l k L hl hm id hard w hA h1
set_option maxHeartbeats 6400000 in
theorem walkNew (c : Cn) {len : Nat} (A : Option Addr) (k : Nat) (L : List Pr) (hl : L.length = len) (hc : len ≤ k) (hm : k ≤ maxLen) (hnil : A = none → k = 0) (hfit : ∀ x ∈ L, PrF x) (id hard : Int) (w : World) (hA : LinksAt w A L) :
    Calls Tryz.prog 3 #[.agg (c.cells A len k).toArray, .int .i64 id, .int .i64 hard] w fun e w' => e = .returned (.bool true) ∧ Below w.heap.size w w' := by
  unfold maxLen at hm
  obtain ⟨n0, hn0⟩ : ∃ n0 : Nat, min (len : Int) 40 = (n0 : Int) ∧ n0 ≤ len ∧ n0 ≤ 40 ∧ (L.take 40).length = n0 := ⟨min len 40, by omega, by omega, by omega, by rw [List.length_take, hl]; omega⟩
  have hmin := hn0.1
  have hmax : max (n0 : Int) 0 = (n0 : Int) := by omega
  have HN := Lib.hid hn0
  have HFIT : Hid (∀ x ∈ L.take 40, PrF x) := fun x hx => hfit x (List.mem_of_mem_take hx)
  have HCN := Lib.hid (fun (A1 : Option Addr) (c1 : Nat) (W : World) (hW : LinksAt W A1 (L.take 40)) => nodeNew c A1 n0 c1 (L.take 40) HN.out.2.2.2 HFIT.out (by have := HN.out; omega) id hard W hW)
  have HCR := Lib.hid (fun (A1 : Option Addr) (c1 : Nat) (W : World) (hW : LinksAt W A1 (L.take 40)) => rNd c A1 n0 c1 (L.take 40) HN.out.2.2.2 (by have := HN.out; omega) id hard W hW)
  clear hn0 hl hfit
  obtain ⟨i0, hi, hz0, hz1, hz2⟩ := info_parts prInfo
  obtain ⟨n, f, dmin, dmax, rho, slew, round, window, attend, seen, hist, fly, quota, body⟩ := c
  simp only [Cn.cells] at HCN HCR ⊢
  have k0 := boxF_made w [.int .i64 n, .slice A len k, .int .i64 f, .int .i64 dmin, .int .i64 dmax, .int .i64 rho, .int .i64 slew, .int .i64 round, .int .i64 window, .int .i64 attend, .int .i64 seen, .int .i64 hist, .int .i64 fly, .int .i64 quota, .int .i64 body] 24
  have k1 := (Below.refl w.heap.size w).alloc (Nat.le_refl _) (.cells #[.int .i64 n, .slice A len k, .int .i64 f, .int .i64 dmin, .int .i64 dmax, .int .i64 rho, .int .i64 slew, .int .i64 round, .int .i64 window, .int .i64 attend, .int .i64 seen, .int .i64 hist, .int .i64 fly, .int .i64 quota, .int .i64 body] 24)
  obtain ⟨w1, hw1⟩ : ∃ w1, w.alloc (.cells #[.int .i64 n, .slice A len k, .int .i64 f, .int .i64 dmin, .int .i64 dmax, .int .i64 rho, .int .i64 slew, .int .i64 round, .int .i64 window, .int .i64 attend, .int .i64 seen, .int .i64 hist, .int .i64 fly, .int .i64 quota, .int .i64 body] 24) = w1 := ⟨_, rfl⟩
  have hs1 : w1.heap.size = w.heap.size + 1 := by rw [← hw1]; simp
  rw [hw1] at k0 k1
  have hlt1 : w.heap.size < w1.heap.size := by omega
  have h00 := World.ownsRow_made (base := w1.heap.size) (e := 155) (size := 2) w1 #[] 0 (Nat.le_refl _) (by simp [maxLen]) rfl
  have hb0 : Below w1.heap.size w1 (w1.alloc (.cells #[] 155)) := (Below.refl _ _).alloc (Nat.le_refl _) _
  have hA0 := (hA.take 40).below (k1.trans (hb0.mono k1.size))
  have q1 := ((k0.keep hb0).1 1 _ rfl)
  have HS := Lib.hid hs1
  clear hs1
  go_enter Tryz.func3, Tryz.ntmps3
  go_wp2_with (at_builtin; refine wpList_append_copy _ rfl _ _ 22 rfl w1.heap.size 155 i0 _ 2 16 Tryz.underlying22 hi hz0 hz1 hz2 rfl (by decide) _ _ _ rfl h00 A n0 k (flatP (L.take 40)) rfl ?c0 ?c1 ?c2 ?c3 ?c4 ?c5 ?c6 ?_)
  case c0 => intro hx; have := hnil hx; have := HN.out; omega
  case c1 => rw [flatP_len, HN.out.2.2.2]
  case c2 => exact hA0.flat
  case c3 => exact flatP_one
  case c4 => have := HN.out; unfold maxLen; omega
  case c5 => have := HN.out; omega
  case c6 => simp
  intro v' w3 row hown hgrow hrow
  have hb3 : Below w1.heap.size w1 w3 := hb0.grown hgrow (by simp) hrow
  have hown : w3.ownsRow w1.heap.size 155 2 v' n0 (flatP (L.take 40)) := by simpa using hown
  obtain ⟨A1, c1, rfl, hc1⟩ := own_form2 hown
  have hLA := ownLinks hown
  have hAB0 : ∀ b off, A1 = some ⟨b, off, none⟩ → w.heap.size ≠ b := fun b off hA => by
    have := own_base hown b off hA
    omega
  have r0 := k0.keep hb3
  have hb03 := k1.trans (hb3.mono k1.size)
  have p0 := r0.put 1 (by simp) (.slice A1 n0 c1)
  have p2 := set_links hAB0 1 (.slice A1 n0 c1) hLA
  have p3 := hb03.setCell (p := ⟨w.heap.size, 1, none⟩) (Nat.le_refl _) (.slice A1 n0 c1)
  have g1 := r0.1 1 _ rfl
  have f1 := r0.2 1 (by simp)
  obtain ⟨w4, hw4⟩ : ∃ w4, w3.setCell ⟨w.heap.size, 1, none⟩ (.slice A1 n0 c1) = w4 := ⟨_, rfl⟩
  rw [hw4] at p0 p2 p3
  simp only [List.set_cons_succ, List.set_cons_zero] at p0
  have d0_ := p0.1 0 _ rfl
  have d1_ := p0.1 1 _ rfl
  have d2_ := p0.1 2 _ rfl
  have d3_ := p0.1 3 _ rfl
  have d4_ := p0.1 4 _ rfl
  have d5_ := p0.1 5 _ rfl
  have d6_ := p0.1 6 _ rfl
  have d7_ := p0.1 7 _ rfl
  have d8_ := p0.1 8 _ rfl
  have d9_ := p0.1 9 _ rfl
  have d10_ := p0.1 10 _ rfl
  have d11_ := p0.1 11 _ rfl
  have d12_ := p0.1 12 _ rfl
  have d13_ := p0.1 13 _ rfl
  have d14_ := p0.1 14 _ rfl
  have HX := Lib.hid (And.intro p0 (And.intro p2 p3))
  clear hown hgrow hrow hA0 hA h00 hb0 hnil q1 k0 k1 hb3 hLA hAB0 r0 hb03 p0 p2 p3
  go_wp2_with fail
  clear d0_ d1_ d2_ d3_ d4_ d5_ d6_ d7_ d8_ d9_ d10_ d11_ d12_ d13_ d14_ hw4 g1 f1
  refine (HCN.out A1 c1 w4 HX.out.2.1).mono ?_
  rintro e w5 ⟨hb5, hok, hbad⟩
  have HX5 := Lib.hid (And.intro (HX.out.1.keep hb5) (And.intro (HX.out.2.1.below hb5) (HX.out.2.2.trans (hb5.mono HX.out.2.2.size))))
  have hx := HX5.out.1
  have e0_ := hx.1 0 _ rfl
  have e1_ := hx.1 1 _ rfl
  have e2_ := hx.1 2 _ rfl
  have e3_ := hx.1 3 _ rfl
  have e4_ := hx.1 4 _ rfl
  have e5_ := hx.1 5 _ rfl
  have e6_ := hx.1 6 _ rfl
  have e7_ := hx.1 7 _ rfl
  have e8_ := hx.1 8 _ rfl
  have e9_ := hx.1 9 _ rfl
  have e10_ := hx.1 10 _ rfl
  have e11_ := hx.1 11 _ rfl
  have e12_ := hx.1 12 _ rfl
  have e13_ := hx.1 13 _ rfl
  have e14_ := hx.1 14 _ rfl
  clear hx hb5
  by_cases hE : newErr ⟨n, f, dmin, dmax, rho, slew, round, window, attend, seen, hist, fly, quota, body⟩ (L.take 40) id = 0
  · obtain ⟨b, rfl, hN⟩ := hok hE
    have HE := Lib.hid hE
    have HN5 := Lib.hid hN
    clear hok hbad hE hN
    go_wp2_with fail
    clear e0_ e1_ e2_ e3_ e4_ e5_ e6_ e7_ e8_ e9_ e10_ e11_ e12_ e13_ e14_
    refine (HCR.out A1 c1 w5 HX5.out.2.1).mono ?_
    rintro e w6 ⟨hb6, hok, -⟩
    obtain ⟨B, rfl, hB⟩ := hok HE.out
    have HN6 := Lib.hid (HN5.out.keep hb6)
    have HB6 := Lib.hid (HX5.out.2.2.trans (hb6.mono HX5.out.2.2.size))
    have HR := Lib.hid hB
    clear hok hb6 hB
    go_wp2_with fail
    refine (lawSame0 HN6.out HR.out).mono ?_
    rintro e w7 ⟨rfl, hb7⟩
    have HB7 := Lib.hid (HB6.out.trans (hb7.mono HB6.out.size))
    clear hb7
    go_wp2_with fail
    refine (works44 w7).mono ?_
    rintro e w8 ⟨rfl, hb8⟩
    have HB8 := Lib.hid (HB7.out.trans (hb8.mono HB7.out.size))
    clear hb8
    go_wp2
    go_ret
    exact ⟨rfl, HB8.out⟩
  · obtain rfl := hbad hE
    obtain ⟨x, hx⟩ : ∃ x, newErr ⟨n, f, dmin, dmax, rho, slew, round, window, attend, seen, hist, fly, quota, body⟩ (L.take 40) id = x := ⟨_, rfl⟩
    have HE : Hid (newErr ⟨n, f, dmin, dmax, rho, slew, round, window, attend, seen, hist, fly, quota, body⟩ (L.take 40) id ≠ 0) := hE
    have HEX := Lib.hid hx
    rw [hx]
    clear hok hbad hE hx
    go_wp2_with fail
    clear e0_ e1_ e2_ e3_ e4_ e5_ e6_ e7_ e8_ e9_ e10_ e11_ e12_ e13_ e14_
    refine (HCR.out A1 c1 w5 HX5.out.2.1).mono ?_
    rintro e w6 ⟨hb6, -, hbad⟩
    obtain rfl := hbad HE.out
    have HB6 := Lib.hid (HX5.out.2.2.trans (hb6.mono HX5.out.2.2.size))
    rw [HEX.out]
    clear hbad hb6
    go_wp2_with fail
    refine (works44 w6).mono ?_
    rintro e w8 ⟨rfl, hb8⟩
    have HB8 := Lib.hid (HB6.out.trans (hb8.mono HB6.out.size))
    clear hb8
    go_wp2
    go_ret
    exact ⟨rfl, HB8.out⟩
end Go.Proofs.YtfkfheddhnjaaaaGreat
