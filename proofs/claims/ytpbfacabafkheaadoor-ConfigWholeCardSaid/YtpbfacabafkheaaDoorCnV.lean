/- What is wrong with any configuration: the law. -/
import Derived.Test.YtpbfacabafkheaaDoorCnW
import Derived.Test.YtpbfacabafkheaaDoorCfgIn
namespace Go.Proofs.YtpbfacabafkheaaDoor
open Go.RowKit Law
set_option linter.unusedVariables false
set_option linter.unusedSimpArgs false
set_option maxRecDepth 100000
attribute [local go_sem] Oper.semAt_some

set_option maxHeartbeats 6400000 in
theorem walkFaults0 (c : Cn) {len : Nat} (A : Option Addr) (k : Nat) (L : List Pr) (hl : L.length = len) (hc : len ≤ k) (hm : k ≤ maxLen) (hnil : A = none → k = 0) (hfit : ∀ x ∈ L, PrF x) (hF : faultN (cutC c) (L.take 40) = 0) (w : World) (hA : LinksAt w A L) (hT : T64 w) :
    Calls Tryd.prog 3 #[.agg (c.cells A len k).toArray] w fun e w' => e = .returned (.bool true) ∧ Below w.heap.size w w' := by
  have HT := Lib.hid hT
  have hlen : (L.take 40).length ≤ 40 := by rw [List.length_take]; omega
  have hf40 : ∀ x ∈ L.take 40, PrF x := fun x hx => hfit x (List.mem_of_mem_take hx)
  have h9 : gErr (cutC c).n (L.take 40) = 0 → (cutC c).n < 9 := fun h => cutN_err h
  obtain ⟨L2, hL2⟩ : ∃ L2, L.take 40 = L2 := ⟨_, rfl⟩
  have HCUT := Lib.hid (fun (W : World) (hA : LinksAt W A L) => cut48 c A k L hl hc hm hnil W hA)
  obtain ⟨sc, hsc⟩ : ∃ sc, cutC c = sc := ⟨_, rfl⟩
  rw [hL2] at hlen hf40 h9 hF
  rw [hsc] at h9 hF
  have CR := Lib.hid (fun (A2 : Option Addr) (l2 k2 : Nat) (hl2 : l2 = L2.length) (W : World) (hA : LinksAt W A2 L2) => rFault sc A2 l2 k2 L2 hl2.symm (by omega) h9 W hA)
  have CF := Lib.hid (fun (A2 : Option Addr) (l2 k2 : Nat) (hl2 : l2 = L2.length) (W : World) (hA : LinksAt W A2 L2) (hT : T64 W) => cFault sc A2 l2 k2 L2 hl2.symm hf40 (by omega) h9 W hA hT)
  have CK := Lib.hid (fun (A2 : Option Addr) (l2 k2 : Nat) (hl2 : l2 = L2.length) (W : World) (hA : LinksAt W A2 L2) (hT : T64 W) => cCheck sc A2 l2 k2 L2 hl2.symm hf40 (by omega) h9 W hA hT)
  have CW := Lib.hid (fun (W : World) (hT : T64 W) => works48 W hT)
  obtain ⟨FN, hFN⟩ : ∃ FN, faultN sc L2 = FN := ⟨_, rfl⟩
  rw [hFN] at CR CF CK hF
  subst hF
  rw [if_pos rfl] at CK
  clear hFN h9 hf40 hfit hT hlen
  have hcut : ∃ HP : Cn → Prop, True := ⟨fun _ => True, trivial⟩
  clear hcut
  unfold CutPost at HCUT
  rw [hsc, hL2] at HCUT
  clear hsc hL2
  obtain ⟨n, f, dmin, dmax, rho, slew, round, window, attend, seen, hist, fly, quota, body⟩ := c
  obtain ⟨sn, sf, sdmin, sdmax, srho, sslew, sround, swindow, sattend, sseen, shist, sfly, squota, sbody⟩ := sc
  have k0 := boxF_made w [.int .i64 n, .slice A len k, .int .i64 f, .int .i64 dmin, .int .i64 dmax, .int .i64 rho, .int .i64 slew, .int .i64 round, .int .i64 window, .int .i64 attend, .int .i64 seen, .int .i64 hist, .int .i64 fly, .int .i64 quota, .int .i64 body] 24
  have k1 := (Below.refl w.heap.size w).alloc (Nat.le_refl _) (.cells #[.int .i64 n, .slice A len k, .int .i64 f, .int .i64 dmin, .int .i64 dmax, .int .i64 rho, .int .i64 slew, .int .i64 round, .int .i64 window, .int .i64 attend, .int .i64 seen, .int .i64 hist, .int .i64 fly, .int .i64 quota, .int .i64 body] 24)
  obtain ⟨w1, hw1⟩ : ∃ w1, w.alloc (.cells #[.int .i64 n, .slice A len k, .int .i64 f, .int .i64 dmin, .int .i64 dmax, .int .i64 rho, .int .i64 slew, .int .i64 round, .int .i64 window, .int .i64 attend, .int .i64 seen, .int .i64 hist, .int .i64 fly, .int .i64 quota, .int .i64 body] 24) = w1 := ⟨_, rfl⟩
  have hs1 : w1.heap.size = w.heap.size + 1 := by rw [← hw1]; simp
  rw [hw1] at k0 k1
  have d0_ := k0.1 0 _ rfl
  have d1_ := k0.1 1 _ rfl
  have d2_ := k0.1 2 _ rfl
  have d3_ := k0.1 3 _ rfl
  have d4_ := k0.1 4 _ rfl
  have d5_ := k0.1 5 _ rfl
  have d6_ := k0.1 6 _ rfl
  have d7_ := k0.1 7 _ rfl
  have d8_ := k0.1 8 _ rfl
  have d9_ := k0.1 9 _ rfl
  have d10_ := k0.1 10 _ rfl
  have d11_ := k0.1 11 _ rfl
  have d12_ := k0.1 12 _ rfl
  have d13_ := k0.1 13 _ rfl
  have d14_ := k0.1 14 _ rfl
  go_enter Tryd.func3, Tryd.ntmps3
  go_wp2_with fail
  clear d0_ d1_ d2_ d3_ d4_ d5_ d6_ d7_ d8_ d9_ d10_ d11_ d12_ d13_ d14_
  refine (HCUT.out w1 (hA.below k1)).mono ?_
  rintro e w2 ⟨A2, l2, k2, rfl, hl2, hlk2, hLA2, hb2, hAB2⟩
  simp only [Cn.cells]
  have q0 := k0.keep hb2
  have hb02 := k1.trans (hb2.mono k1.size)
  have hAB3 : ∀ b off, A2 = some ⟨b, off, none⟩ → w.heap.size ≠ b := fun b off h => by have := hAB2 b off h; omega
  have zp := storeN_box w.heap.size [.int .i64 sn, .slice A2 l2 k2, .int .i64 sf, .int .i64 sdmin, .int .i64 sdmax, .int .i64 srho, .int .i64 sslew, .int .i64 sround, .int .i64 swindow, .int .i64 sattend, .int .i64 sseen, .int .i64 shist, .int .i64 sfly, .int .i64 squota, .int .i64 sbody] w2 [] [.int .i64 n, .slice A len k, .int .i64 f, .int .i64 dmin, .int .i64 dmax, .int .i64 rho, .int .i64 slew, .int .i64 round, .int .i64 window, .int .i64 attend, .int .i64 seen, .int .i64 hist, .int .i64 fly, .int .i64 quota, .int .i64 body] rfl q0
  have zq := storeN_below (N := w.heap.size) w.heap.size (Nat.le_refl _) [.int .i64 sn, .slice A2 l2 k2, .int .i64 sf, .int .i64 sdmin, .int .i64 sdmax, .int .i64 srho, .int .i64 sslew, .int .i64 sround, .int .i64 swindow, .int .i64 sattend, .int .i64 sseen, .int .i64 shist, .int .i64 sfly, .int .i64 squota, .int .i64 sbody] w w2 0 hb02
  have zl := storeN_links hAB3 [.int .i64 sn, .slice A2 l2 k2, .int .i64 sf, .int .i64 sdmin, .int .i64 sdmax, .int .i64 srho, .int .i64 sslew, .int .i64 sround, .int .i64 swindow, .int .i64 sattend, .int .i64 sseen, .int .i64 shist, .int .i64 sfly, .int .i64 squota, .int .i64 sbody] w2 0 hLA2
  obtain ⟨w3, hw3⟩ : ∃ w3, storeN w.heap.size w2 [.int .i64 sn, .slice A2 l2 k2, .int .i64 sf, .int .i64 sdmin, .int .i64 sdmax, .int .i64 srho, .int .i64 sslew, .int .i64 sround, .int .i64 swindow, .int .i64 sattend, .int .i64 sseen, .int .i64 shist, .int .i64 sfly, .int .i64 squota, .int .i64 sbody] 0 = w3 := ⟨_, rfl⟩
  rw [show ([] : List Value).length = 0 from rfl, List.nil_append, hw3] at zp
  rw [hw3] at zq zl
  simp only [storeN, Nat.reduceAdd] at hw3
  have q0_ := q0.1 0 _ rfl
  have p0_ := q0.2 0 (by simp)
  have q1_ := q0.1 1 _ rfl
  have p1_ := q0.2 1 (by simp)
  have q2_ := q0.1 2 _ rfl
  have p2_ := q0.2 2 (by simp)
  have q3_ := q0.1 3 _ rfl
  have p3_ := q0.2 3 (by simp)
  have q4_ := q0.1 4 _ rfl
  have p4_ := q0.2 4 (by simp)
  have q5_ := q0.1 5 _ rfl
  have p5_ := q0.2 5 (by simp)
  have q6_ := q0.1 6 _ rfl
  have p6_ := q0.2 6 (by simp)
  have q7_ := q0.1 7 _ rfl
  have p7_ := q0.2 7 (by simp)
  have q8_ := q0.1 8 _ rfl
  have p8_ := q0.2 8 (by simp)
  have q9_ := q0.1 9 _ rfl
  have p9_ := q0.2 9 (by simp)
  have q10_ := q0.1 10 _ rfl
  have p10_ := q0.2 10 (by simp)
  have q11_ := q0.1 11 _ rfl
  have p11_ := q0.2 11 (by simp)
  have q12_ := q0.1 12 _ rfl
  have p12_ := q0.2 12 (by simp)
  have q13_ := q0.1 13 _ rfl
  have p13_ := q0.2 13 (by simp)
  have q14_ := q0.1 14 _ rfl
  have p14_ := q0.2 14 (by simp)
  have e0_ := zp.1 0 _ rfl
  have e1_ := zp.1 1 _ rfl
  have e2_ := zp.1 2 _ rfl
  have e3_ := zp.1 3 _ rfl
  have e4_ := zp.1 4 _ rfl
  have e5_ := zp.1 5 _ rfl
  have e6_ := zp.1 6 _ rfl
  have e7_ := zp.1 7 _ rfl
  have e8_ := zp.1 8 _ rfl
  have e9_ := zp.1 9 _ rfl
  have e10_ := zp.1 10 _ rfl
  have e11_ := zp.1 11 _ rfl
  have e12_ := zp.1 12 _ rfl
  have e13_ := zp.1 13 _ rfl
  have e14_ := zp.1 14 _ rfl
  have HBX := Lib.hid zp
  have HLA := Lib.hid zl
  have HB := Lib.hid zq
  have HL2 := Lib.hid hl2
  clear zp zq zl hAB3 hAB2 hb02 q0 hLA2 hb2 hA hs1 k0 k1 hl hc hm hnil hl2
  go_wp2_with fail
  clear hw3 q0_ p0_ q1_ p1_ q2_ p2_ q3_ p3_ q4_ p4_ q5_ p5_ q6_ p6_ q7_ p7_ q8_ p8_ q9_ p9_ q10_ p10_ q11_ p11_ q12_ p12_ q13_ p13_ q14_ p14_
  refine (CR.out A2 l2 k2 HL2.out _ HLA.out).mono ?_
  rintro e w4 ⟨rfl, hb4⟩
  have HBX4 := Lib.hid (HBX.out.keep hb4)
  have HLA4 := Lib.hid (HLA.out.below hb4)
  have HB4 := Lib.hid (HB.out.trans (hb4.mono HB.out.size))
  have HT4 := Lib.hid (HT.out.below HB4.out)
  clear hb4 e0_ e1_ e2_ e3_ e4_ e5_ e6_ e7_ e8_ e9_ e10_ e11_ e12_ e13_ e14_
  have hx := HBX4.out
  have f0_ := hx.1 0 _ rfl
  have f1_ := hx.1 1 _ rfl
  have f2_ := hx.1 2 _ rfl
  have f3_ := hx.1 3 _ rfl
  have f4_ := hx.1 4 _ rfl
  have f5_ := hx.1 5 _ rfl
  have f6_ := hx.1 6 _ rfl
  have f7_ := hx.1 7 _ rfl
  have f8_ := hx.1 8 _ rfl
  have f9_ := hx.1 9 _ rfl
  have f10_ := hx.1 10 _ rfl
  have f11_ := hx.1 11 _ rfl
  have f12_ := hx.1 12 _ rfl
  have f13_ := hx.1 13 _ rfl
  have f14_ := hx.1 14 _ rfl
  clear hx
  go_wp2_with fail
  refine (CF.out A2 l2 k2 HL2.out _ HLA4.out HT4.out).mono ?_
  rintro e w5 ⟨rfl, hb5⟩
  have HBX5 := Lib.hid (HBX4.out.keep hb5)
  have HLA5 := Lib.hid (HLA4.out.below hb5)
  have HB5 := Lib.hid (HB4.out.trans (hb5.mono HB4.out.size))
  have HT5 := Lib.hid (HT.out.below HB5.out)
  clear hb5 f0_ f1_ f2_ f3_ f4_ f5_ f6_ f7_ f8_ f9_ f10_ f11_ f12_ f13_ f14_
  have hx := HBX5.out
  have g0_ := hx.1 0 _ rfl
  have g1_ := hx.1 1 _ rfl
  have g2_ := hx.1 2 _ rfl
  have g3_ := hx.1 3 _ rfl
  have g4_ := hx.1 4 _ rfl
  have g5_ := hx.1 5 _ rfl
  have g6_ := hx.1 6 _ rfl
  have g7_ := hx.1 7 _ rfl
  have g8_ := hx.1 8 _ rfl
  have g9_ := hx.1 9 _ rfl
  have g10_ := hx.1 10 _ rfl
  have g11_ := hx.1 11 _ rfl
  have g12_ := hx.1 12 _ rfl
  have g13_ := hx.1 13 _ rfl
  have g14_ := hx.1 14 _ rfl
  clear hx
  go_wp2_with fail
  refine (CK.out A2 l2 k2 HL2.out _ HLA5.out HT5.out).mono ?_
  rintro e w6 ⟨rfl, hb6⟩
  have HBX6 := Lib.hid (HBX5.out.keep hb6)
  have HLA6 := Lib.hid (HLA5.out.below hb6)
  have HB6 := Lib.hid (HB5.out.trans (hb6.mono HB5.out.size))
  have HT6 := Lib.hid (HT.out.below HB6.out)
  clear hb6 g0_ g1_ g2_ g3_ g4_ g5_ g6_ g7_ g8_ g9_ g10_ g11_ g12_ g13_ g14_
  have hx := HBX6.out
  have h0_ := hx.1 0 _ rfl
  have h1_ := hx.1 1 _ rfl
  have h2_ := hx.1 2 _ rfl
  have h3_ := hx.1 3 _ rfl
  have h4_ := hx.1 4 _ rfl
  have h5_ := hx.1 5 _ rfl
  have h6_ := hx.1 6 _ rfl
  have h7_ := hx.1 7 _ rfl
  have h8_ := hx.1 8 _ rfl
  have h9_ := hx.1 9 _ rfl
  have h10_ := hx.1 10 _ rfl
  have h11_ := hx.1 11 _ rfl
  have h12_ := hx.1 12 _ rfl
  have h13_ := hx.1 13 _ rfl
  have h14_ := hx.1 14 _ rfl
  clear hx
  go_wp2_with fail
  refine (CW.out _ HT6.out).mono ?_
  rintro e w8 ⟨rfl, hb8⟩
  go_wp2
  go_ret
  exact ⟨rfl, HB6.out.trans (hb8.mono HB6.out.size)⟩
set_option maxHeartbeats 6400000 in
theorem walkFaults1 (c : Cn) {len : Nat} (A : Option Addr) (k : Nat) (L : List Pr) (hl : L.length = len) (hc : len ≤ k) (hm : k ≤ maxLen) (hnil : A = none → k = 0) (hfit : ∀ x ∈ L, PrF x) (hF : faultN (cutC c) (L.take 40) ≠ 0) (w : World) (hA : LinksAt w A L) (hT : T64 w) :
    Calls Tryd.prog 3 #[.agg (c.cells A len k).toArray] w fun e w' => e = .returned (.bool true) ∧ Below w.heap.size w w' := by
  have HT := Lib.hid hT
  have hlen : (L.take 40).length ≤ 40 := by rw [List.length_take]; omega
  have hf40 : ∀ x ∈ L.take 40, PrF x := fun x hx => hfit x (List.mem_of_mem_take hx)
  have h9 : gErr (cutC c).n (L.take 40) = 0 → (cutC c).n < 9 := fun h => cutN_err h
  obtain ⟨L2, hL2⟩ : ∃ L2, L.take 40 = L2 := ⟨_, rfl⟩
  have HCUT := Lib.hid (fun (W : World) (hA : LinksAt W A L) => cut48 c A k L hl hc hm hnil W hA)
  obtain ⟨sc, hsc⟩ : ∃ sc, cutC c = sc := ⟨_, rfl⟩
  rw [hL2] at hlen hf40 h9 hF
  rw [hsc] at h9 hF
  have CR := Lib.hid (fun (A2 : Option Addr) (l2 k2 : Nat) (hl2 : l2 = L2.length) (W : World) (hA : LinksAt W A2 L2) => rFault sc A2 l2 k2 L2 hl2.symm (by omega) h9 W hA)
  have CF := Lib.hid (fun (A2 : Option Addr) (l2 k2 : Nat) (hl2 : l2 = L2.length) (W : World) (hA : LinksAt W A2 L2) (hT : T64 W) => cFault sc A2 l2 k2 L2 hl2.symm hf40 (by omega) h9 W hA hT)
  have CK := Lib.hid (fun (A2 : Option Addr) (l2 k2 : Nat) (hl2 : l2 = L2.length) (W : World) (hA : LinksAt W A2 L2) (hT : T64 W) => cCheck sc A2 l2 k2 L2 hl2.symm hf40 (by omega) h9 W hA hT)
  have CW := Lib.hid (fun (W : World) (hT : T64 W) => works48 W hT)
  obtain ⟨FN, hFN⟩ : ∃ FN, faultN sc L2 = FN := ⟨_, rfl⟩
  rw [hFN] at CR CF CK hF
  rw [if_neg hF] at CK
  have hFi : (FN : Int) ≠ 0 := by omega
  clear hF
  clear hFN h9 hf40 hfit hT hlen
  have hcut : ∃ HP : Cn → Prop, True := ⟨fun _ => True, trivial⟩
  clear hcut
  unfold CutPost at HCUT
  rw [hsc, hL2] at HCUT
  clear hsc hL2
  obtain ⟨n, f, dmin, dmax, rho, slew, round, window, attend, seen, hist, fly, quota, body⟩ := c
  obtain ⟨sn, sf, sdmin, sdmax, srho, sslew, sround, swindow, sattend, sseen, shist, sfly, squota, sbody⟩ := sc
  have k0 := boxF_made w [.int .i64 n, .slice A len k, .int .i64 f, .int .i64 dmin, .int .i64 dmax, .int .i64 rho, .int .i64 slew, .int .i64 round, .int .i64 window, .int .i64 attend, .int .i64 seen, .int .i64 hist, .int .i64 fly, .int .i64 quota, .int .i64 body] 24
  have k1 := (Below.refl w.heap.size w).alloc (Nat.le_refl _) (.cells #[.int .i64 n, .slice A len k, .int .i64 f, .int .i64 dmin, .int .i64 dmax, .int .i64 rho, .int .i64 slew, .int .i64 round, .int .i64 window, .int .i64 attend, .int .i64 seen, .int .i64 hist, .int .i64 fly, .int .i64 quota, .int .i64 body] 24)
  obtain ⟨w1, hw1⟩ : ∃ w1, w.alloc (.cells #[.int .i64 n, .slice A len k, .int .i64 f, .int .i64 dmin, .int .i64 dmax, .int .i64 rho, .int .i64 slew, .int .i64 round, .int .i64 window, .int .i64 attend, .int .i64 seen, .int .i64 hist, .int .i64 fly, .int .i64 quota, .int .i64 body] 24) = w1 := ⟨_, rfl⟩
  have hs1 : w1.heap.size = w.heap.size + 1 := by rw [← hw1]; simp
  rw [hw1] at k0 k1
  have d0_ := k0.1 0 _ rfl
  have d1_ := k0.1 1 _ rfl
  have d2_ := k0.1 2 _ rfl
  have d3_ := k0.1 3 _ rfl
  have d4_ := k0.1 4 _ rfl
  have d5_ := k0.1 5 _ rfl
  have d6_ := k0.1 6 _ rfl
  have d7_ := k0.1 7 _ rfl
  have d8_ := k0.1 8 _ rfl
  have d9_ := k0.1 9 _ rfl
  have d10_ := k0.1 10 _ rfl
  have d11_ := k0.1 11 _ rfl
  have d12_ := k0.1 12 _ rfl
  have d13_ := k0.1 13 _ rfl
  have d14_ := k0.1 14 _ rfl
  go_enter Tryd.func3, Tryd.ntmps3
  go_wp2_with fail
  clear d0_ d1_ d2_ d3_ d4_ d5_ d6_ d7_ d8_ d9_ d10_ d11_ d12_ d13_ d14_
  refine (HCUT.out w1 (hA.below k1)).mono ?_
  rintro e w2 ⟨A2, l2, k2, rfl, hl2, hlk2, hLA2, hb2, hAB2⟩
  simp only [Cn.cells]
  have q0 := k0.keep hb2
  have hb02 := k1.trans (hb2.mono k1.size)
  have hAB3 : ∀ b off, A2 = some ⟨b, off, none⟩ → w.heap.size ≠ b := fun b off h => by have := hAB2 b off h; omega
  have zp := storeN_box w.heap.size [.int .i64 sn, .slice A2 l2 k2, .int .i64 sf, .int .i64 sdmin, .int .i64 sdmax, .int .i64 srho, .int .i64 sslew, .int .i64 sround, .int .i64 swindow, .int .i64 sattend, .int .i64 sseen, .int .i64 shist, .int .i64 sfly, .int .i64 squota, .int .i64 sbody] w2 [] [.int .i64 n, .slice A len k, .int .i64 f, .int .i64 dmin, .int .i64 dmax, .int .i64 rho, .int .i64 slew, .int .i64 round, .int .i64 window, .int .i64 attend, .int .i64 seen, .int .i64 hist, .int .i64 fly, .int .i64 quota, .int .i64 body] rfl q0
  have zq := storeN_below (N := w.heap.size) w.heap.size (Nat.le_refl _) [.int .i64 sn, .slice A2 l2 k2, .int .i64 sf, .int .i64 sdmin, .int .i64 sdmax, .int .i64 srho, .int .i64 sslew, .int .i64 sround, .int .i64 swindow, .int .i64 sattend, .int .i64 sseen, .int .i64 shist, .int .i64 sfly, .int .i64 squota, .int .i64 sbody] w w2 0 hb02
  have zl := storeN_links hAB3 [.int .i64 sn, .slice A2 l2 k2, .int .i64 sf, .int .i64 sdmin, .int .i64 sdmax, .int .i64 srho, .int .i64 sslew, .int .i64 sround, .int .i64 swindow, .int .i64 sattend, .int .i64 sseen, .int .i64 shist, .int .i64 sfly, .int .i64 squota, .int .i64 sbody] w2 0 hLA2
  obtain ⟨w3, hw3⟩ : ∃ w3, storeN w.heap.size w2 [.int .i64 sn, .slice A2 l2 k2, .int .i64 sf, .int .i64 sdmin, .int .i64 sdmax, .int .i64 srho, .int .i64 sslew, .int .i64 sround, .int .i64 swindow, .int .i64 sattend, .int .i64 sseen, .int .i64 shist, .int .i64 sfly, .int .i64 squota, .int .i64 sbody] 0 = w3 := ⟨_, rfl⟩
  rw [show ([] : List Value).length = 0 from rfl, List.nil_append, hw3] at zp
  rw [hw3] at zq zl
  simp only [storeN, Nat.reduceAdd] at hw3
  have q0_ := q0.1 0 _ rfl
  have p0_ := q0.2 0 (by simp)
  have q1_ := q0.1 1 _ rfl
  have p1_ := q0.2 1 (by simp)
  have q2_ := q0.1 2 _ rfl
  have p2_ := q0.2 2 (by simp)
  have q3_ := q0.1 3 _ rfl
  have p3_ := q0.2 3 (by simp)
  have q4_ := q0.1 4 _ rfl
  have p4_ := q0.2 4 (by simp)
  have q5_ := q0.1 5 _ rfl
  have p5_ := q0.2 5 (by simp)
  have q6_ := q0.1 6 _ rfl
  have p6_ := q0.2 6 (by simp)
  have q7_ := q0.1 7 _ rfl
  have p7_ := q0.2 7 (by simp)
  have q8_ := q0.1 8 _ rfl
  have p8_ := q0.2 8 (by simp)
  have q9_ := q0.1 9 _ rfl
  have p9_ := q0.2 9 (by simp)
  have q10_ := q0.1 10 _ rfl
  have p10_ := q0.2 10 (by simp)
  have q11_ := q0.1 11 _ rfl
  have p11_ := q0.2 11 (by simp)
  have q12_ := q0.1 12 _ rfl
  have p12_ := q0.2 12 (by simp)
  have q13_ := q0.1 13 _ rfl
  have p13_ := q0.2 13 (by simp)
  have q14_ := q0.1 14 _ rfl
  have p14_ := q0.2 14 (by simp)
  have e0_ := zp.1 0 _ rfl
  have e1_ := zp.1 1 _ rfl
  have e2_ := zp.1 2 _ rfl
  have e3_ := zp.1 3 _ rfl
  have e4_ := zp.1 4 _ rfl
  have e5_ := zp.1 5 _ rfl
  have e6_ := zp.1 6 _ rfl
  have e7_ := zp.1 7 _ rfl
  have e8_ := zp.1 8 _ rfl
  have e9_ := zp.1 9 _ rfl
  have e10_ := zp.1 10 _ rfl
  have e11_ := zp.1 11 _ rfl
  have e12_ := zp.1 12 _ rfl
  have e13_ := zp.1 13 _ rfl
  have e14_ := zp.1 14 _ rfl
  have HBX := Lib.hid zp
  have HLA := Lib.hid zl
  have HB := Lib.hid zq
  have HL2 := Lib.hid hl2
  clear zp zq zl hAB3 hAB2 hb02 q0 hLA2 hb2 hA hs1 k0 k1 hl hc hm hnil hl2
  go_wp2_with fail
  clear hw3 q0_ p0_ q1_ p1_ q2_ p2_ q3_ p3_ q4_ p4_ q5_ p5_ q6_ p6_ q7_ p7_ q8_ p8_ q9_ p9_ q10_ p10_ q11_ p11_ q12_ p12_ q13_ p13_ q14_ p14_
  refine (CR.out A2 l2 k2 HL2.out _ HLA.out).mono ?_
  rintro e w4 ⟨rfl, hb4⟩
  have HBX4 := Lib.hid (HBX.out.keep hb4)
  have HLA4 := Lib.hid (HLA.out.below hb4)
  have HB4 := Lib.hid (HB.out.trans (hb4.mono HB.out.size))
  have HT4 := Lib.hid (HT.out.below HB4.out)
  clear hb4 e0_ e1_ e2_ e3_ e4_ e5_ e6_ e7_ e8_ e9_ e10_ e11_ e12_ e13_ e14_
  have hx := HBX4.out
  have f0_ := hx.1 0 _ rfl
  have f1_ := hx.1 1 _ rfl
  have f2_ := hx.1 2 _ rfl
  have f3_ := hx.1 3 _ rfl
  have f4_ := hx.1 4 _ rfl
  have f5_ := hx.1 5 _ rfl
  have f6_ := hx.1 6 _ rfl
  have f7_ := hx.1 7 _ rfl
  have f8_ := hx.1 8 _ rfl
  have f9_ := hx.1 9 _ rfl
  have f10_ := hx.1 10 _ rfl
  have f11_ := hx.1 11 _ rfl
  have f12_ := hx.1 12 _ rfl
  have f13_ := hx.1 13 _ rfl
  have f14_ := hx.1 14 _ rfl
  clear hx
  go_wp2_with fail
  refine (CF.out A2 l2 k2 HL2.out _ HLA4.out HT4.out).mono ?_
  rintro e w5 ⟨rfl, hb5⟩
  have HBX5 := Lib.hid (HBX4.out.keep hb5)
  have HLA5 := Lib.hid (HLA4.out.below hb5)
  have HB5 := Lib.hid (HB4.out.trans (hb5.mono HB4.out.size))
  have HT5 := Lib.hid (HT.out.below HB5.out)
  clear hb5 f0_ f1_ f2_ f3_ f4_ f5_ f6_ f7_ f8_ f9_ f10_ f11_ f12_ f13_ f14_
  have hx := HBX5.out
  have g0_ := hx.1 0 _ rfl
  have g1_ := hx.1 1 _ rfl
  have g2_ := hx.1 2 _ rfl
  have g3_ := hx.1 3 _ rfl
  have g4_ := hx.1 4 _ rfl
  have g5_ := hx.1 5 _ rfl
  have g6_ := hx.1 6 _ rfl
  have g7_ := hx.1 7 _ rfl
  have g8_ := hx.1 8 _ rfl
  have g9_ := hx.1 9 _ rfl
  have g10_ := hx.1 10 _ rfl
  have g11_ := hx.1 11 _ rfl
  have g12_ := hx.1 12 _ rfl
  have g13_ := hx.1 13 _ rfl
  have g14_ := hx.1 14 _ rfl
  clear hx
  go_wp2_with fail
  refine (CK.out A2 l2 k2 HL2.out _ HLA5.out HT5.out).mono ?_
  rintro e w6 ⟨rfl, hb6⟩
  have HBX6 := Lib.hid (HBX5.out.keep hb6)
  have HLA6 := Lib.hid (HLA5.out.below hb6)
  have HB6 := Lib.hid (HB5.out.trans (hb6.mono HB5.out.size))
  have HT6 := Lib.hid (HT.out.below HB6.out)
  clear hb6 g0_ g1_ g2_ g3_ g4_ g5_ g6_ g7_ g8_ g9_ g10_ g11_ g12_ g13_ g14_
  have hx := HBX6.out
  have h0_ := hx.1 0 _ rfl
  have h1_ := hx.1 1 _ rfl
  have h2_ := hx.1 2 _ rfl
  have h3_ := hx.1 3 _ rfl
  have h4_ := hx.1 4 _ rfl
  have h5_ := hx.1 5 _ rfl
  have h6_ := hx.1 6 _ rfl
  have h7_ := hx.1 7 _ rfl
  have h8_ := hx.1 8 _ rfl
  have h9_ := hx.1 9 _ rfl
  have h10_ := hx.1 10 _ rfl
  have h11_ := hx.1 11 _ rfl
  have h12_ := hx.1 12 _ rfl
  have h13_ := hx.1 13 _ rfl
  have h14_ := hx.1 14 _ rfl
  clear hx
  go_wp2_with fail
  refine (CK.out A2 l2 k2 HL2.out _ HLA6.out HT6.out).mono ?_
  rintro e w7 ⟨rfl, hb7⟩
  have HBX7 := Lib.hid (HBX6.out.keep hb7)
  have HLA7 := Lib.hid (HLA6.out.below hb7)
  have HB7 := Lib.hid (HB6.out.trans (hb7.mono HB6.out.size))
  have HT7 := Lib.hid (HT.out.below HB7.out)
  clear hb7 h0_ h1_ h2_ h3_ h4_ h5_ h6_ h7_ h8_ h9_ h10_ h11_ h12_ h13_ h14_
  have hx := HBX7.out
  have i0_ := hx.1 0 _ rfl
  have i1_ := hx.1 1 _ rfl
  have i2_ := hx.1 2 _ rfl
  have i3_ := hx.1 3 _ rfl
  have i4_ := hx.1 4 _ rfl
  have i5_ := hx.1 5 _ rfl
  have i6_ := hx.1 6 _ rfl
  have i7_ := hx.1 7 _ rfl
  have i8_ := hx.1 8 _ rfl
  have i9_ := hx.1 9 _ rfl
  have i10_ := hx.1 10 _ rfl
  have i11_ := hx.1 11 _ rfl
  have i12_ := hx.1 12 _ rfl
  have i13_ := hx.1 13 _ rfl
  have i14_ := hx.1 14 _ rfl
  clear hx
  go_wp2_with fail
  refine (CW.out _ HT7.out).mono ?_
  rintro e w8 ⟨rfl, hb8⟩
  go_wp2
  go_ret
  exact ⟨ret_bool (by simpa using hFi), HB7.out.trans (hb8.mono HB7.out.size)⟩
theorem walkFaults (c : Cn) {len : Nat} (A : Option Addr) (k : Nat) (L : List Pr) (hl : L.length = len) (hc : len ≤ k) (hm : k ≤ maxLen) (hnil : A = none → k = 0) (hfit : ∀ x ∈ L, PrF x) (w : World) (hA : LinksAt w A L) (hT : T64 w) :
    Calls Tryd.prog 3 #[.agg (c.cells A len k).toArray] w fun e w' => e = .returned (.bool true) ∧ Below w.heap.size w w' := by
  by_cases hF : faultN (cutC c) (L.take 40) = 0
  · exact walkFaults0 c A k L hl hc hm hnil hfit hF w hA hT
  · exact walkFaults1 c A k L hl hc hm hnil hfit hF w hA hT
end Go.Proofs.YtpbfacabafkheaaDoor
