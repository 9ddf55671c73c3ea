/- The chapter's examples. -/
import Derived.Test.YtpbfacabafkheaaDoorCnU
namespace Go.Proofs.YtpbfacabafkheaaDoor
open Go.RowKit Law
set_option linter.unusedVariables false
set_option linter.unusedSimpArgs false
set_option maxRecDepth 100000
attribute [local go_sem] Oper.semAt_some

theorem small_ok : faultN (sugC (smallC 3 1 1 0)) (fullL 3) = 0 := by decide +kernel
theorem ring_weak (c : Cn) (hn : c.n = 4) (hf : c.f = 2) : faultN c ring4 = 2 := by
  unfold faultN
  rw [hn, hf]
  rw [if_neg (show ¬ (gErr 4 ring4 ≠ 0 ∨ (4 : Int) < 2) by decide +kernel), if_pos (show safeB (4 : Int).toNat (nr (nearL (4 : Int).toNat ring4)) 2 = false by decide +kernel)]
theorem ring_fit : ∀ p ∈ ring4, PrF p := by
  intro p hp
  unfold ring4 at hp
  simp only [List.mem_cons, List.not_mem_nil, or_false] at hp
  unfold PrF
  rcases hp with rfl | rfl | rfl | rfl <;> simp
set_option maxHeartbeats 6400000 in
theorem works48 (w : World) (hT : T64 w) : Calls Tryd.prog 11 #[] w fun e w' => e = .returned (.bool true) ∧ Below w.heap.size w w' := by
  have CS := Lib.hid (cSmall 3 1 1 0 w hT)
  have CR := Lib.hid (fun W => rRing4 W)
  have HT := Lib.hid hT
  have hok := small_ok
  have hsn := sugC_n (smallC 3 1 1 0)
  have hfit := full_fit (n := 3) (by omega)
  have hlen : (fullL 3).length ≤ 4096 := fullTo_len64 (by omega) (by omega)
  unfold SmallPost at CS
  obtain ⟨sc, hsc⟩ : ∃ sc, sugC (smallC 3 1 1 0) = sc := ⟨_, rfl⟩
  rw [hsc] at CS hok hsn
  obtain ⟨L, hL⟩ : ∃ L, fullL 3 = L := ⟨_, rfl⟩
  rw [show (3 : Int).toNat = 3 from rfl, hL] at CS
  rw [hL] at hok hfit hlen
  obtain ⟨l, hl⟩ : ∃ l, L.length = l := ⟨_, rfl⟩
  rw [hl] at CS hlen
  obtain ⟨sn, sf, sdmin, sdmax, srho, sslew, sround, swindow, sattend, sseen, shist, sfly, squota, sbody⟩ := sc
  have hsn' : sn = 3 := hsn
  have CF := Lib.hid (fun (A : Option Addr) (k : Nat) (W : World) (hA : LinksAt W A L) (hT : T64 W) => cFault ⟨sn, sf, sdmin, sdmax, srho, sslew, sround, swindow, sattend, sseen, shist, sfly, squota, sbody⟩ A l k L hl hfit (by omega) (fun _ => by show sn < 9; omega) W hA hT)
  rw [hok] at CF
  have CG := Lib.hid (fun (A : Option Addr) (k : Nat) (W : World) (hA : LinksAt W A ring4) (hT : T64 W) => cFault ⟨4, 2, sdmin, sdmax, srho, sslew, sround, swindow, sattend, sseen, shist, sfly, squota, sbody⟩ A 4 k ring4 rfl ring_fit (by omega) (fun _ => by show (4 : Int) < 9; omega) W hA hT)
  rw [ring_weak ⟨4, 2, sdmin, sdmax, srho, sslew, sround, swindow, sattend, sseen, shist, sfly, squota, sbody⟩ rfl rfl] at CG
  have CH := Lib.hid (fun (A : Option Addr) (k : Nat) (W : World) (hA : LinksAt W A ring4) (hT : T64 W) => cCheck ⟨4, 2, sdmin, sdmax, srho, sslew, sround, swindow, sattend, sseen, shist, sfly, squota, sbody⟩ A 4 k ring4 rfl ring_fit (by omega) (fun _ => by show (4 : Int) < 9; omega) W hA hT)
  rw [ring_weak ⟨4, 2, sdmin, sdmax, srho, sslew, sround, swindow, sattend, sseen, shist, sfly, squota, sbody⟩ rfl rfl] at CH
  have HOK := Lib.hid hok
  clear hsc hL hfit hsn hsn' hT hok hl
  go_enter Tryd.func11, Tryd.ntmps11
  go_wp2_with fail
  refine CS.out.mono ?_
  rintro e w1 ⟨hb1, -, -, hgood⟩
  obtain ⟨A, k, rfl, hLA, hk⟩ := hgood (by omega) HOK.out
  simp only [Cn.cells, List.length_cons, List.length_nil]
  obtain ⟨w2, hw2⟩ : ∃ w2, w1.alloc (.cells #[.int .i64 sn, .slice A l k, .int .i64 sf, .int .i64 sdmin, .int .i64 sdmax, .int .i64 srho, .int .i64 sslew, .int .i64 sround, .int .i64 swindow, .int .i64 sattend, .int .i64 sseen, .int .i64 shist, .int .i64 sfly, .int .i64 squota, .int .i64 sbody] 24) = w2 := ⟨_, rfl⟩
  have c2 := boxF_made w1 [.int .i64 sn, .slice A l k, .int .i64 sf, .int .i64 sdmin, .int .i64 sdmax, .int .i64 srho, .int .i64 sslew, .int .i64 sround, .int .i64 swindow, .int .i64 sattend, .int .i64 sseen, .int .i64 shist, .int .i64 sfly, .int .i64 squota, .int .i64 sbody] 24
  have hs2 : w2.heap.size = w1.heap.size + 1 := by rw [← hw2]; simp
  rw [show w1.alloc (.cells [.int .i64 sn, .slice A l k, .int .i64 sf, .int .i64 sdmin, .int .i64 sdmax, .int .i64 srho, .int .i64 sslew, .int .i64 sround, .int .i64 swindow, .int .i64 sattend, .int .i64 sseen, .int .i64 shist, .int .i64 sfly, .int .i64 squota, .int .i64 sbody].toArray 24) = w2 from hw2] at c2
  have b2 : Below w1.heap.size w1 w2 := by rw [← hw2]; exact (Below.refl _ _).alloc (Nat.le_refl _) _
  obtain ⟨w3, hw3⟩ : ∃ w3, w2.alloc (.cells #[.int .i64 sn, .slice A l k, .int .i64 sf, .int .i64 sdmin, .int .i64 sdmax, .int .i64 srho, .int .i64 sslew, .int .i64 sround, .int .i64 swindow, .int .i64 sattend, .int .i64 sseen, .int .i64 shist, .int .i64 sfly, .int .i64 squota, .int .i64 sbody] 24) = w3 := ⟨_, rfl⟩
  have c3 := boxF_made w2 [.int .i64 sn, .slice A l k, .int .i64 sf, .int .i64 sdmin, .int .i64 sdmax, .int .i64 srho, .int .i64 sslew, .int .i64 sround, .int .i64 swindow, .int .i64 sattend, .int .i64 sseen, .int .i64 shist, .int .i64 sfly, .int .i64 squota, .int .i64 sbody] 24
  have hs3 : w3.heap.size = w2.heap.size + 1 := by rw [← hw3]; simp
  rw [show w2.alloc (.cells [.int .i64 sn, .slice A l k, .int .i64 sf, .int .i64 sdmin, .int .i64 sdmax, .int .i64 srho, .int .i64 sslew, .int .i64 sround, .int .i64 swindow, .int .i64 sattend, .int .i64 sseen, .int .i64 shist, .int .i64 sfly, .int .i64 squota, .int .i64 sbody].toArray 24) = w3 from hw3] at c3
  have b3 : Below w2.heap.size w2 w3 := by rw [← hw3]; exact (Below.refl _ _).alloc (Nat.le_refl _) _
  have d0 := c2.1 0 _ rfl
  have d1 := c2.1 1 _ rfl
  have d2 := c2.1 2 _ rfl
  have d3 := c2.1 3 _ rfl
  have d4 := c2.1 4 _ rfl
  have d5 := c2.1 5 _ rfl
  have d6 := c2.1 6 _ rfl
  have d7 := c2.1 7 _ rfl
  have d8 := c2.1 8 _ rfl
  have d9 := c2.1 9 _ rfl
  have d10 := c2.1 10 _ rfl
  have d11 := c2.1 11 _ rfl
  have d12 := c2.1 12 _ rfl
  have d13 := c2.1 13 _ rfl
  have d14 := c2.1 14 _ rfl
  have hLA2 := hLA.below b2
  have hb2 := hb1.trans (b2.mono hb1.size)
  have hsz1 := hb1.size
  have hlt1 : w.heap.size ≤ w2.heap.size := by omega
  have HLA := Lib.hid hLA2
  have HC2 := Lib.hid c2
  have HB2 := Lib.hid hb2
  have HB3 := Lib.hid b3
  have HS3 := Lib.hid hs3
  clear hgood b2 b3 hb1 hLA hsz1 hLA2 c2 hb2 hs2 hs3
  go_wp2_with fail
  refine (CR.out _).mono ?_
  rintro e w4 ⟨v, rfl, hown, hb4⟩
  obtain ⟨R, kr, rfl, hkr⟩ := own_form2 hown
  have hRA := ownLinks hown
  have hRB : ∀ b off, R = some ⟨b, off, none⟩ → w2.heap.size ≠ b := fun b off hA => by
    have := own_base hown b off hA
    have := HS3.out
    omega
  have hb34 := HB3.out.trans (hb4.mono HB3.out.size)
  have x0 := c3.keep hb4
  have x1 := ((x0.put 0 (by simp) (.int .i64 4)).put 2 (by simp) (.int .i64 2)).put 1 (by simp) (.slice R 4 kr)
  have x2 := set_links hRB 1 (.slice R 4 kr) (set_links hRB 2 (.int .i64 2) (set_links hRB 0 (.int .i64 4) hRA))
  have x3 := ((hb34.setCell (p := ⟨w2.heap.size, 0, none⟩) (Nat.le_refl _) (.int .i64 4)).setCell (p := ⟨w2.heap.size, 2, none⟩) (Nat.le_refl _) (.int .i64 2)).setCell (p := ⟨w2.heap.size, 1, none⟩) (Nat.le_refl _) (.slice R 4 kr)
  obtain ⟨w5, hw5⟩ : ∃ w5, ((w4.setCell ⟨w2.heap.size, 0, none⟩ (.int .i64 4)).setCell ⟨w2.heap.size, 2, none⟩ (.int .i64 2)).setCell ⟨w2.heap.size, 1, none⟩ (.slice R 4 kr) = w5 := ⟨_, rfl⟩
  rw [hw5] at x1 x2 x3
  simp only [List.set_cons_succ, List.set_cons_zero] at x1
  have y0 := x0.1 0 _ rfl
  have y1 := x0.1 1 _ rfl
  have y2 := x0.1 2 _ rfl
  have z0 := x0.2 0 (by simp)
  have z1 := x0.2 1 (by simp)
  have z2 := x0.2 2 (by simp)
  have hcx := HC2.out.keep x3
  have e0_ := hcx.1 0 _ rfl
  have e1_ := hcx.1 1 _ rfl
  have e2_ := hcx.1 2 _ rfl
  have e3_ := hcx.1 3 _ rfl
  have e4_ := hcx.1 4 _ rfl
  have e5_ := hcx.1 5 _ rfl
  have e6_ := hcx.1 6 _ rfl
  have e7_ := hcx.1 7 _ rfl
  have e8_ := hcx.1 8 _ rfl
  have e9_ := hcx.1 9 _ rfl
  have e10_ := hcx.1 10 _ rfl
  have e11_ := hcx.1 11 _ rfl
  have e12_ := hcx.1 12 _ rfl
  have e13_ := hcx.1 13 _ rfl
  have e14_ := hcx.1 14 _ rfl
  have HX := Lib.hid (And.intro x2 x3)
  have HX1 := Lib.hid x1
  have hb25 := HB2.out.trans (x3.mono HB2.out.size)
  have HT5 := Lib.hid (HT.out.below hb25)
  have HLA5 := Lib.hid (HLA.out.below x3)
  have HB5 := Lib.hid hb25
  clear hown hb4 hRA hRB hb34 x0 x1 x2 x3 d0 d1 d2 d3 d4 d5 d6 d7 d8 d9 d10 d11 d12 d13 d14 hcx hb25 c3 hw2 hw3
  go_wp2_with fail
  refine (CF.out A k _ HLA5.out HT5.out).mono ?_
  rintro e w6 ⟨rfl, hb6⟩
  have hx6 := HX1.out.keep hb6
  have f0_ := hx6.1 0 _ rfl
  have f1_ := hx6.1 1 _ rfl
  have f2_ := hx6.1 2 _ rfl
  have f3_ := hx6.1 3 _ rfl
  have f4_ := hx6.1 4 _ rfl
  have f5_ := hx6.1 5 _ rfl
  have f6_ := hx6.1 6 _ rfl
  have f7_ := hx6.1 7 _ rfl
  have f8_ := hx6.1 8 _ rfl
  have f9_ := hx6.1 9 _ rfl
  have f10_ := hx6.1 10 _ rfl
  have f11_ := hx6.1 11 _ rfl
  have f12_ := hx6.1 12 _ rfl
  have f13_ := hx6.1 13 _ rfl
  have f14_ := hx6.1 14 _ rfl
  have HLR6 := Lib.hid (HX.out.1.below hb6)
  have HB6 := Lib.hid (HB5.out.trans (hb6.mono HB5.out.size))
  have HT6 := Lib.hid (HT.out.below HB6.out)
  have HX6 := Lib.hid hx6
  clear hb6 e0_ e1_ e2_ e3_ e4_ e5_ e6_ e7_ e8_ e9_ e10_ e11_ e12_ e13_ e14_ hx6
  go_wp2_with fail
  refine (CG.out R kr _ HLR6.out HT6.out).mono ?_
  rintro e w7 ⟨rfl, hb7⟩
  have hx7 := HX6.out.keep hb7
  have g0_ := hx7.1 0 _ rfl
  have g1_ := hx7.1 1 _ rfl
  have g2_ := hx7.1 2 _ rfl
  have g3_ := hx7.1 3 _ rfl
  have g4_ := hx7.1 4 _ rfl
  have g5_ := hx7.1 5 _ rfl
  have g6_ := hx7.1 6 _ rfl
  have g7_ := hx7.1 7 _ rfl
  have g8_ := hx7.1 8 _ rfl
  have g9_ := hx7.1 9 _ rfl
  have g10_ := hx7.1 10 _ rfl
  have g11_ := hx7.1 11 _ rfl
  have g12_ := hx7.1 12 _ rfl
  have g13_ := hx7.1 13 _ rfl
  have g14_ := hx7.1 14 _ rfl
  have HLR7 := Lib.hid (HLR6.out.below hb7)
  have HB7 := Lib.hid (HB6.out.trans (hb7.mono HB6.out.size))
  have HT7 := Lib.hid (HT.out.below HB7.out)
  clear hb7 f0_ f1_ f2_ f3_ f4_ f5_ f6_ f7_ f8_ f9_ f10_ f11_ f12_ f13_ f14_ hx7
  go_wp2_with fail
  refine (CH.out R kr _ HLR7.out HT7.out).mono ?_
  rintro e w8 ⟨rfl, hb8⟩
  clear g0_ g1_ g2_ g3_ g4_ g5_ g6_ g7_ g8_ g9_ g10_ g11_ g12_ g13_ g14_
  go_wp2
  go_ret
  exact ⟨rfl, HB7.out.trans (hb8.mono HB7.out.size)⟩
end Go.Proofs.YtpbfacabafkheaaDoor
