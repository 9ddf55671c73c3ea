/- The nodes of a cluster that may be stay whole: the law. -/
import Derived.Test.YtpbfacabafkheaaDoorCnV
import Derived.Test.YtpbfacabafkheaaDoorCnP
namespace Go.Proofs.YtpbfacabafkheaaDoor
open Go.RowKit Law
set_option linter.unusedVariables false
set_option linter.unusedSimpArgs false
set_option maxRecDepth 100000
attribute [local go_sem] Oper.semAt_some

set_option maxHeartbeats 6400000 in
theorem walkWhole0 (c : Cn) {len : Nat} (A : Option Addr) (k : Nat) (L : List Pr) (hl : L.length = len) (hc : len ≤ k) (hm : k ≤ maxLen) (hnil : A = none → k = 0) (hfit : ∀ x ∈ L, PrF x) (hF : faultN (cutC c) (L.take 40) = 0) (off : Nat) (hoff : off < 18446744073709551616) (hf64 : -9223372036854775808 ≤ c.f ∧ c.f ≤ 9223372036854775807) (w : World) (hA : LinksAt w A L) (hT : T64 w) :
    Calls Tryd.prog 5 #[.agg (c.cells A len k).toArray, .int .u64 (off : Int)] w fun e w' => e = .returned (.bool true) ∧ Below w.heap.size w w' := by
  have HT := Lib.hid hT
  have hlen : (L.take 40).length ≤ 40 := by rw [List.length_take]; omega
  have hf40 : ∀ x ∈ L.take 40, PrF x := fun x hx => hfit x (List.mem_of_mem_take hx)
  have h9 : gErr (cutC c).n (L.take 40) = 0 → (cutC c).n < 9 := fun h => cutN_err h
  obtain ⟨L2, hL2⟩ : ∃ L2, L.take 40 = L2 := ⟨_, rfl⟩
  have HCUT := Lib.hid (fun (W : World) (hA : LinksAt W A L) => cut48 c A k L hl hc hm hnil W hA)
  have hf64' : -9223372036854775808 ≤ (cutC c).f ∧ (cutC c).f ≤ 9223372036854775807 := hf64
  obtain ⟨sc, hsc⟩ : ∃ sc, cutC c = sc := ⟨_, rfl⟩
  rw [hL2] at hlen hf40 h9 hF
  rw [hsc] at h9 hF hf64'
  have CR := Lib.hid (fun (A2 : Option Addr) (l2 k2 : Nat) (hl2 : l2 = L2.length) (W : World) (hA : LinksAt W A2 L2) => rFault sc A2 l2 k2 L2 hl2.symm (by omega) h9 W hA)
  have CF := Lib.hid (fun (A2 : Option Addr) (l2 k2 : Nat) (hl2 : l2 = L2.length) (W : World) (hA : LinksAt W A2 L2) (hT : T64 W) => cFault sc A2 l2 k2 L2 hl2.symm hf40 (by omega) h9 W hA hT)
  have CW := Lib.hid (fun (W : World) (hT : T64 W) => works48 W hT)
  have hpar := fault_parts hF
  have h9' : sc.n < 9 := h9 hpar.1
  have hlaw := fault_whole hF h9' off hoff
  have hnod := (gErr_zero hpar.1).2.2
  have CG := Lib.hid (fun (A2 : Option Addr) (l2 k2 : Nat) (hl2 : l2 = L2.length) (W : World) (hA : LinksAt W A2 L2) => grNew sc.n A2 k2 L2 hl2.symm hf40 (by omega) W hA)
  rw [hF] at CR CF
  have hg0 := hpar.1
  have hn2 := hpar.2.1
  clear hpar h9 hf40 hfit hT hlen hF hf64
  unfold CutPost at HCUT
  rw [hsc, hL2] at HCUT
  clear hsc hL2
  obtain ⟨n, f, dmin, dmax, rho, slew, round, window, attend, seen, hist, fly, quota, body⟩ := c
  obtain ⟨sn, sf, sdmin, sdmax, srho, sslew, sround, swindow, sattend, sseen, shist, sfly, squota, sbody⟩ := sc
  simp only at hlaw h9' hnod CG hg0 hn2 hf64'
  obtain ⟨m, hmn⟩ : ∃ m : Nat, sn = (m : Int) := ⟨sn.toNat, by omega⟩
  subst hmn
  rw [Int.toNat_natCast] at hlaw hnod
  unfold NewPost at CG
  rw [Int.toNat_natCast] at CG
  have hnl : (nearL m L2).length = m := nearL_len m L2
  have hpow : ∀ j, nr (nearL m L2) j < 2 ^ (nearL m L2).length := fun j => by rw [hnl]; exact nearL_pow hnod j
  obtain ⟨near, hnear⟩ : ∃ near, nearL m L2 = near := ⟨_, rfl⟩
  rw [hnear] at hlaw hnl hpow CG
  have HLAW := Lib.hid hlaw
  have HPOW := Lib.hid hpow
  have HNL := Lib.hid hnl
  have HG0 := Lib.hid hg0
  clear hlaw hpow hnl hg0 hnod hnear
  have k0 := boxF_made w [.int .i64 n, .slice A len k, .int .i64 f, .int .i64 dmin, .int .i64 dmax, .int .i64 rho, .int .i64 slew, .int .i64 round, .int .i64 window, .int .i64 attend, .int .i64 seen, .int .i64 hist, .int .i64 fly, .int .i64 quota, .int .i64 body] 24
  have k1 := (Below.refl w.heap.size w).alloc (Nat.le_refl _) (.cells #[.int .i64 n, .slice A len k, .int .i64 f, .int .i64 dmin, .int .i64 dmax, .int .i64 rho, .int .i64 slew, .int .i64 round, .int .i64 window, .int .i64 attend, .int .i64 seen, .int .i64 hist, .int .i64 fly, .int .i64 quota, .int .i64 body] 24)
  obtain ⟨w1, hw1⟩ : ∃ w1, w.alloc (.cells #[.int .i64 n, .slice A len k, .int .i64 f, .int .i64 dmin, .int .i64 dmax, .int .i64 rho, .int .i64 slew, .int .i64 round, .int .i64 window, .int .i64 attend, .int .i64 seen, .int .i64 hist, .int .i64 fly, .int .i64 quota, .int .i64 body] 24) = w1 := ⟨_, rfl⟩
  have hs1 : w1.heap.size = w.heap.size + 1 := by rw [← hw1]; simp
  rw [hw1] at k0 k1
  have d0_ := k0.1 0 _ rfl
  have d1_ := k0.1 1 _ rfl
  have d2_ := k0.1 2 _ rfl
  have d3_ := k0.1 3 _ rfl
  have d4_ := k0.1 4 _ rfl
  have d5_ := k0.1 5 _ rfl
  have d6_ := k0.1 6 _ rfl
  have d7_ := k0.1 7 _ rfl
  have d8_ := k0.1 8 _ rfl
  have d9_ := k0.1 9 _ rfl
  have d10_ := k0.1 10 _ rfl
  have d11_ := k0.1 11 _ rfl
  have d12_ := k0.1 12 _ rfl
  have d13_ := k0.1 13 _ rfl
  have d14_ := k0.1 14 _ rfl
  go_enter Tryd.func5, Tryd.ntmps5
  go_wp2_with fail
  clear d0_ d1_ d2_ d3_ d4_ d5_ d6_ d7_ d8_ d9_ d10_ d11_ d12_ d13_ d14_
  refine (HCUT.out w1 (hA.below k1)).mono ?_
  rintro e w2 ⟨A2, l2, k2, rfl, hl2, hlk2, hLA2, hb2, hAB2⟩
  simp only [Cn.cells]
  have q0 := k0.keep hb2
  have hb02 := k1.trans (hb2.mono k1.size)
  have hAB3 : ∀ b off, A2 = some ⟨b, off, none⟩ → w.heap.size ≠ b := fun b off h => by have := hAB2 b off h; omega
  have zp := storeN_box w.heap.size [.int .i64 (m : Int), .slice A2 l2 k2, .int .i64 sf, .int .i64 sdmin, .int .i64 sdmax, .int .i64 srho, .int .i64 sslew, .int .i64 sround, .int .i64 swindow, .int .i64 sattend, .int .i64 sseen, .int .i64 shist, .int .i64 sfly, .int .i64 squota, .int .i64 sbody] w2 [] [.int .i64 n, .slice A len k, .int .i64 f, .int .i64 dmin, .int .i64 dmax, .int .i64 rho, .int .i64 slew, .int .i64 round, .int .i64 window, .int .i64 attend, .int .i64 seen, .int .i64 hist, .int .i64 fly, .int .i64 quota, .int .i64 body] rfl q0
  have zq := storeN_below (N := w.heap.size) w.heap.size (Nat.le_refl _) [.int .i64 (m : Int), .slice A2 l2 k2, .int .i64 sf, .int .i64 sdmin, .int .i64 sdmax, .int .i64 srho, .int .i64 sslew, .int .i64 sround, .int .i64 swindow, .int .i64 sattend, .int .i64 sseen, .int .i64 shist, .int .i64 sfly, .int .i64 squota, .int .i64 sbody] w w2 0 hb02
  have zl := storeN_links hAB3 [.int .i64 (m : Int), .slice A2 l2 k2, .int .i64 sf, .int .i64 sdmin, .int .i64 sdmax, .int .i64 srho, .int .i64 sslew, .int .i64 sround, .int .i64 swindow, .int .i64 sattend, .int .i64 sseen, .int .i64 shist, .int .i64 sfly, .int .i64 squota, .int .i64 sbody] w2 0 hLA2
  obtain ⟨w3, hw3⟩ : ∃ w3, storeN w.heap.size w2 [.int .i64 (m : Int), .slice A2 l2 k2, .int .i64 sf, .int .i64 sdmin, .int .i64 sdmax, .int .i64 srho, .int .i64 sslew, .int .i64 sround, .int .i64 swindow, .int .i64 sattend, .int .i64 sseen, .int .i64 shist, .int .i64 sfly, .int .i64 squota, .int .i64 sbody] 0 = w3 := ⟨_, rfl⟩
  rw [show ([] : List Value).length = 0 from rfl, List.nil_append, hw3] at zp
  rw [hw3] at zq zl
  simp only [storeN, Nat.reduceAdd] at hw3
  have q0_ := q0.1 0 _ rfl
  have p0_ := q0.2 0 (by simp)
  have q1_ := q0.1 1 _ rfl
  have p1_ := q0.2 1 (by simp)
  have q2_ := q0.1 2 _ rfl
  have p2_ := q0.2 2 (by simp)
  have q3_ := q0.1 3 _ rfl
  have p3_ := q0.2 3 (by simp)
  have q4_ := q0.1 4 _ rfl
  have p4_ := q0.2 4 (by simp)
  have q5_ := q0.1 5 _ rfl
  have p5_ := q0.2 5 (by simp)
  have q6_ := q0.1 6 _ rfl
  have p6_ := q0.2 6 (by simp)
  have q7_ := q0.1 7 _ rfl
  have p7_ := q0.2 7 (by simp)
  have q8_ := q0.1 8 _ rfl
  have p8_ := q0.2 8 (by simp)
  have q9_ := q0.1 9 _ rfl
  have p9_ := q0.2 9 (by simp)
  have q10_ := q0.1 10 _ rfl
  have p10_ := q0.2 10 (by simp)
  have q11_ := q0.1 11 _ rfl
  have p11_ := q0.2 11 (by simp)
  have q12_ := q0.1 12 _ rfl
  have p12_ := q0.2 12 (by simp)
  have q13_ := q0.1 13 _ rfl
  have p13_ := q0.2 13 (by simp)
  have q14_ := q0.1 14 _ rfl
  have p14_ := q0.2 14 (by simp)
  have e0_ := zp.1 0 _ rfl
  have e1_ := zp.1 1 _ rfl
  have e2_ := zp.1 2 _ rfl
  have e3_ := zp.1 3 _ rfl
  have e4_ := zp.1 4 _ rfl
  have e5_ := zp.1 5 _ rfl
  have e6_ := zp.1 6 _ rfl
  have e7_ := zp.1 7 _ rfl
  have e8_ := zp.1 8 _ rfl
  have e9_ := zp.1 9 _ rfl
  have e10_ := zp.1 10 _ rfl
  have e11_ := zp.1 11 _ rfl
  have e12_ := zp.1 12 _ rfl
  have e13_ := zp.1 13 _ rfl
  have e14_ := zp.1 14 _ rfl
  have HBX := Lib.hid zp
  have HLA := Lib.hid zl
  have HB := Lib.hid zq
  have HL2 := Lib.hid hl2
  have HT3 := Lib.hid (HT.out.below zq)
  clear zp zq zl hAB3 hAB2 hb02 q0 hLA2 hb2 hA hs1 k0 k1 hl hc hm hnil hl2 hlk2
  go_wp2_with fail
  clear hw3 q0_ p0_ q1_ p1_ q2_ p2_ q3_ p3_ q4_ p4_ q5_ p5_ q6_ p6_ q7_ p7_ q8_ p8_ q9_ p9_ q10_ p10_ q11_ p11_ q12_ p12_ q13_ p13_ q14_ p14_
  refine (CF.out A2 l2 k2 HL2.out _ HLA.out HT3.out).mono ?_
  rintro e w4 ⟨rfl, hb4⟩
  have HBX4 := Lib.hid (HBX.out.keep hb4)
  have HLA4 := Lib.hid (HLA.out.below hb4)
  have HB4 := Lib.hid (HB.out.trans (hb4.mono HB.out.size))
  have HT4 := Lib.hid (HT.out.below HB4.out)
  clear hb4 e0_ e1_ e2_ e3_ e4_ e5_ e6_ e7_ e8_ e9_ e10_ e11_ e12_ e13_ e14_
  have hx := HBX4.out
  have f0_ := hx.1 0 _ rfl
  have f1_ := hx.1 1 _ rfl
  have f2_ := hx.1 2 _ rfl
  have f3_ := hx.1 3 _ rfl
  have f4_ := hx.1 4 _ rfl
  have f5_ := hx.1 5 _ rfl
  have f6_ := hx.1 6 _ rfl
  have f7_ := hx.1 7 _ rfl
  have f8_ := hx.1 8 _ rfl
  have f9_ := hx.1 9 _ rfl
  have f10_ := hx.1 10 _ rfl
  have f11_ := hx.1 11 _ rfl
  have f12_ := hx.1 12 _ rfl
  have f13_ := hx.1 13 _ rfl
  have f14_ := hx.1 14 _ rfl
  clear hx
  go_wp2_with fail
  refine (CG.out A2 l2 k2 HL2.out _ HLA4.out).mono ?_
  rintro e w5 ⟨hb5, hgood, -⟩
  obtain ⟨G, R, rfl, hgr, -, -⟩ := hgood HG0.out
  have HGR := Lib.hid hgr
  clear hgr hgood
  have HBX5 := Lib.hid (HBX4.out.keep hb5)
  have HLA5 := Lib.hid (HLA4.out.below hb5)
  have HB5 := Lib.hid (HB4.out.trans (hb5.mono HB4.out.size))
  have HT5 := Lib.hid (HT.out.below HB5.out)
  clear hb5 f0_ f1_ f2_ f3_ f4_ f5_ f6_ f7_ f8_ f9_ f10_ f11_ f12_ f13_ f14_
  have hx := HBX5.out
  have g0_ := hx.1 0 _ rfl
  have g1_ := hx.1 1 _ rfl
  have g2_ := hx.1 2 _ rfl
  have g3_ := hx.1 3 _ rfl
  have g4_ := hx.1 4 _ rfl
  have g5_ := hx.1 5 _ rfl
  have g6_ := hx.1 6 _ rfl
  have g7_ := hx.1 7 _ rfl
  have g8_ := hx.1 8 _ rfl
  have g9_ := hx.1 9 _ rfl
  have g10_ := hx.1 10 _ rfl
  have g11_ := hx.1 11 _ rfl
  have g12_ := hx.1 12 _ rfl
  have g13_ := hx.1 13 _ rfl
  have g14_ := hx.1 14 _ rfl
  clear hx
  have CFI := Lib.hid (fun W => refFirst off hoff sf hf64'.1 hf64'.2 W)
  obtain ⟨s, hs⟩ : ∃ s, ofN ((elsI off).take sf.toNat) = s := ⟨_, rfl⟩
  have hs64 : s < 18446744073709551616 := by rw [← hs]; exact ofN_lt _
  rw [hs] at CFI HLAW
  clear hs
  go_wp2_with fail
  refine (CFI.out _).mono ?_
  rintro e w6 ⟨rfl, hb6⟩
  have HGR6 := Lib.hid (HGR.out.keep hb6)
  have HBX6 := Lib.hid (HBX5.out.keep hb6)
  have HLA6 := Lib.hid (HLA5.out.below hb6)
  have HB6 := Lib.hid (HB5.out.trans (hb6.mono HB5.out.size))
  have HT6 := Lib.hid (HT.out.below HB6.out)
  clear hb6 g0_ g1_ g2_ g3_ g4_ g5_ g6_ g7_ g8_ g9_ g10_ g11_ g12_ g13_ g14_
  have hx := HBX6.out
  have h0_ := hx.1 0 _ rfl
  have h1_ := hx.1 1 _ rfl
  have h2_ := hx.1 2 _ rfl
  have h3_ := hx.1 3 _ rfl
  have h4_ := hx.1 4 _ rfl
  have h5_ := hx.1 5 _ rfl
  have h6_ := hx.1 6 _ rfl
  have h7_ := hx.1 7 _ rfl
  have h8_ := hx.1 8 _ rfl
  have h9_ := hx.1 9 _ rfl
  have h10_ := hx.1 10 _ rfl
  have h11_ := hx.1 11 _ rfl
  have h12_ := hx.1 12 _ rfl
  have h13_ := hx.1 13 _ rfl
  have h14_ := hx.1 14 _ rfl
  clear hx
  clear h0_ h1_ h2_ h3_ h4_ h5_ h6_ h7_ h8_ h9_ h10_ h11_ h12_ h13_ h14_
  go_wp2_with fail
  go_loopw [8] (fun i wr => ∃ j : Nat, j ≤ m ∧ i = .int .i64 (j : Int) ∧ Below w6.heap.size w6 wr) (fun i _ => m - (intOf i).toNat)
  case atStart => exact ⟨0, Nat.zero_le _, rfl, Below.refl _ _⟩
  case round =>
    obtain ⟨j, hj, rfl, hbr⟩ := hrel
    have hx := HBX6.out.keep hbr
    have r0 := hx.1 0 _ rfl
    have r2 := hx.1 2 _ rfl
    clear hx
    by_cases hlt : j < m
    · have hjl : j < near.length := by rw [HNL.out]; exact hlt
      have hdeg := HLAW.out.2 j (by omega)
      have hgw := HGR6.out.keep hbr
      have CN := Lib.hid (grNear j hjl hgw)
      have hsn64 : near.getD j 0 < 18446744073709551616 := by
        rw [List.getD_eq_getElem?_getD, List.getElem?_eq_getElem hjl]
        exact hgw.lt _ (List.getElem_mem hjl)
      unfold nr at hdeg
      obtain ⟨sj, hsj⟩ : ∃ sj, near.getD j 0 = sj := ⟨_, rfl⟩
      rw [hsj] at CN hdeg hsn64
      have CL := Lib.hid (fun W => refList sj hsn64 W)
      obtain ⟨d, hd⟩ : ∃ d, (elsI sj).length = d := ⟨_, rfl⟩
      rw [hd] at CL hdeg
      have hkm : (j : Int) < (m : Int) := by omega
      have HBR := Lib.hid hbr
      clear hgw hsj hd hbr
      go_wp2_with fail
      refine CN.out.mono ?_
      rintro e w7 ⟨rfl, rfl⟩
      go_wp2_with fail
      refine (CL.out _).mono ?_
      rintro e w8 ⟨v, rfl, hown, hb8⟩
      obtain ⟨B, kb, rfl, hkb⟩ := own_form hown
      have HB8 := Lib.hid (HBR.out.trans (hb8.mono HBR.out.size))
      have hx := HBX6.out.keep HB8.out
      clear r0 r2
      have r0 := hx.1 0 _ rfl
      have r2 := hx.1 2 _ rfl
      clear hx hown hb8
      by_cases hdf : (d : Int) ≤ sf
      · have hnd := hdeg hdf
        go_wp2
        go_roundw
        case rel => exact ⟨j + 1, by omega, by go_num, HB8.out⟩
        case measure => simp [intOf]; omega
      · go_wp2
        go_roundw
        case rel => exact ⟨j + 1, by omega, by go_num, HB8.out⟩
        case measure => simp [intOf]; omega
    · obtain rfl : j = m := by omega
      have HBW := Lib.hid (HB6.out.trans (hbr.mono HB6.out.size))
      have CWH := Lib.hid (rWhole s hs64 HPOW.out (HGR6.out.keep hbr) (HT.out.below HBW.out))
      rw [HNL.out, HLAW.out.1] at CWH
      clear hbr
      go_wp2_with fail
      refine CWH.out.mono ?_
      rintro e w7 ⟨rfl, hb7⟩
      have HB7 := Lib.hid (HBW.out.trans (hb7.mono HBW.out.size))
      clear hb7
      go_wp2_with fail
      refine (CW.out _ (HT.out.below HB7.out)).mono ?_
      rintro e w8 ⟨rfl, hb8⟩
      go_wp2
      go_ret
      exact ⟨rfl, HB7.out.trans (hb8.mono HB7.out.size)⟩
set_option maxHeartbeats 6400000 in
theorem walkWhole1 (c : Cn) {len : Nat} (A : Option Addr) (k : Nat) (L : List Pr) (hl : L.length = len) (hc : len ≤ k) (hm : k ≤ maxLen) (hnil : A = none → k = 0) (hfit : ∀ x ∈ L, PrF x) (hF : faultN (cutC c) (L.take 40) ≠ 0) (off : Nat) (hoff : off < 18446744073709551616) (hf64 : -9223372036854775808 ≤ c.f ∧ c.f ≤ 9223372036854775807) (w : World) (hA : LinksAt w A L) (hT : T64 w) :
    Calls Tryd.prog 5 #[.agg (c.cells A len k).toArray, .int .u64 (off : Int)] w fun e w' => e = .returned (.bool true) ∧ Below w.heap.size w w' := by
  have HT := Lib.hid hT
  have hlen : (L.take 40).length ≤ 40 := by rw [List.length_take]; omega
  have hf40 : ∀ x ∈ L.take 40, PrF x := fun x hx => hfit x (List.mem_of_mem_take hx)
  have h9 : gErr (cutC c).n (L.take 40) = 0 → (cutC c).n < 9 := fun h => cutN_err h
  obtain ⟨L2, hL2⟩ : ∃ L2, L.take 40 = L2 := ⟨_, rfl⟩
  have HCUT := Lib.hid (fun (W : World) (hA : LinksAt W A L) => cut48 c A k L hl hc hm hnil W hA)
  have hf64' : -9223372036854775808 ≤ (cutC c).f ∧ (cutC c).f ≤ 9223372036854775807 := hf64
  obtain ⟨sc, hsc⟩ : ∃ sc, cutC c = sc := ⟨_, rfl⟩
  rw [hL2] at hlen hf40 h9 hF
  rw [hsc] at h9 hF hf64'
  have CR := Lib.hid (fun (A2 : Option Addr) (l2 k2 : Nat) (hl2 : l2 = L2.length) (W : World) (hA : LinksAt W A2 L2) => rFault sc A2 l2 k2 L2 hl2.symm (by omega) h9 W hA)
  have CF := Lib.hid (fun (A2 : Option Addr) (l2 k2 : Nat) (hl2 : l2 = L2.length) (W : World) (hA : LinksAt W A2 L2) (hT : T64 W) => cFault sc A2 l2 k2 L2 hl2.symm hf40 (by omega) h9 W hA hT)
  have CW := Lib.hid (fun (W : World) (hT : T64 W) => works48 W hT)
  obtain ⟨FN, hFN⟩ : ∃ FN, faultN sc L2 = FN := ⟨_, rfl⟩
  rw [hFN] at CR CF hF
  have hFi : (FN : Int) ≠ 0 := by omega
  clear hF hFN h9 hf40 hfit hT hlen hf64 hf64'
  unfold CutPost at HCUT
  rw [hsc, hL2] at HCUT
  clear hsc hL2
  obtain ⟨n, f, dmin, dmax, rho, slew, round, window, attend, seen, hist, fly, quota, body⟩ := c
  obtain ⟨sn, sf, sdmin, sdmax, srho, sslew, sround, swindow, sattend, sseen, shist, sfly, squota, sbody⟩ := sc
  have k0 := boxF_made w [.int .i64 n, .slice A len k, .int .i64 f, .int .i64 dmin, .int .i64 dmax, .int .i64 rho, .int .i64 slew, .int .i64 round, .int .i64 window, .int .i64 attend, .int .i64 seen, .int .i64 hist, .int .i64 fly, .int .i64 quota, .int .i64 body] 24
  have k1 := (Below.refl w.heap.size w).alloc (Nat.le_refl _) (.cells #[.int .i64 n, .slice A len k, .int .i64 f, .int .i64 dmin, .int .i64 dmax, .int .i64 rho, .int .i64 slew, .int .i64 round, .int .i64 window, .int .i64 attend, .int .i64 seen, .int .i64 hist, .int .i64 fly, .int .i64 quota, .int .i64 body] 24)
  obtain ⟨w1, hw1⟩ : ∃ w1, w.alloc (.cells #[.int .i64 n, .slice A len k, .int .i64 f, .int .i64 dmin, .int .i64 dmax, .int .i64 rho, .int .i64 slew, .int .i64 round, .int .i64 window, .int .i64 attend, .int .i64 seen, .int .i64 hist, .int .i64 fly, .int .i64 quota, .int .i64 body] 24) = w1 := ⟨_, rfl⟩
  have hs1 : w1.heap.size = w.heap.size + 1 := by rw [← hw1]; simp
  rw [hw1] at k0 k1
  have d0_ := k0.1 0 _ rfl
  have d1_ := k0.1 1 _ rfl
  have d2_ := k0.1 2 _ rfl
  have d3_ := k0.1 3 _ rfl
  have d4_ := k0.1 4 _ rfl
  have d5_ := k0.1 5 _ rfl
  have d6_ := k0.1 6 _ rfl
  have d7_ := k0.1 7 _ rfl
  have d8_ := k0.1 8 _ rfl
  have d9_ := k0.1 9 _ rfl
  have d10_ := k0.1 10 _ rfl
  have d11_ := k0.1 11 _ rfl
  have d12_ := k0.1 12 _ rfl
  have d13_ := k0.1 13 _ rfl
  have d14_ := k0.1 14 _ rfl
  go_enter Tryd.func5, Tryd.ntmps5
  go_wp2_with fail
  clear d0_ d1_ d2_ d3_ d4_ d5_ d6_ d7_ d8_ d9_ d10_ d11_ d12_ d13_ d14_
  refine (HCUT.out w1 (hA.below k1)).mono ?_
  rintro e w2 ⟨A2, l2, k2, rfl, hl2, hlk2, hLA2, hb2, hAB2⟩
  simp only [Cn.cells]
  have q0 := k0.keep hb2
  have hb02 := k1.trans (hb2.mono k1.size)
  have hAB3 : ∀ b off, A2 = some ⟨b, off, none⟩ → w.heap.size ≠ b := fun b off h => by have := hAB2 b off h; omega
  have zp := storeN_box w.heap.size [.int .i64 sn, .slice A2 l2 k2, .int .i64 sf, .int .i64 sdmin, .int .i64 sdmax, .int .i64 srho, .int .i64 sslew, .int .i64 sround, .int .i64 swindow, .int .i64 sattend, .int .i64 sseen, .int .i64 shist, .int .i64 sfly, .int .i64 squota, .int .i64 sbody] w2 [] [.int .i64 n, .slice A len k, .int .i64 f, .int .i64 dmin, .int .i64 dmax, .int .i64 rho, .int .i64 slew, .int .i64 round, .int .i64 window, .int .i64 attend, .int .i64 seen, .int .i64 hist, .int .i64 fly, .int .i64 quota, .int .i64 body] rfl q0
  have zq := storeN_below (N := w.heap.size) w.heap.size (Nat.le_refl _) [.int .i64 sn, .slice A2 l2 k2, .int .i64 sf, .int .i64 sdmin, .int .i64 sdmax, .int .i64 srho, .int .i64 sslew, .int .i64 sround, .int .i64 swindow, .int .i64 sattend, .int .i64 sseen, .int .i64 shist, .int .i64 sfly, .int .i64 squota, .int .i64 sbody] w w2 0 hb02
  have zl := storeN_links hAB3 [.int .i64 sn, .slice A2 l2 k2, .int .i64 sf, .int .i64 sdmin, .int .i64 sdmax, .int .i64 srho, .int .i64 sslew, .int .i64 sround, .int .i64 swindow, .int .i64 sattend, .int .i64 sseen, .int .i64 shist, .int .i64 sfly, .int .i64 squota, .int .i64 sbody] w2 0 hLA2
  obtain ⟨w3, hw3⟩ : ∃ w3, storeN w.heap.size w2 [.int .i64 sn, .slice A2 l2 k2, .int .i64 sf, .int .i64 sdmin, .int .i64 sdmax, .int .i64 srho, .int .i64 sslew, .int .i64 sround, .int .i64 swindow, .int .i64 sattend, .int .i64 sseen, .int .i64 shist, .int .i64 sfly, .int .i64 squota, .int .i64 sbody] 0 = w3 := ⟨_, rfl⟩
  rw [show ([] : List Value).length = 0 from rfl, List.nil_append, hw3] at zp
  rw [hw3] at zq zl
  simp only [storeN, Nat.reduceAdd] at hw3
  have q0_ := q0.1 0 _ rfl
  have p0_ := q0.2 0 (by simp)
  have q1_ := q0.1 1 _ rfl
  have p1_ := q0.2 1 (by simp)
  have q2_ := q0.1 2 _ rfl
  have p2_ := q0.2 2 (by simp)
  have q3_ := q0.1 3 _ rfl
  have p3_ := q0.2 3 (by simp)
  have q4_ := q0.1 4 _ rfl
  have p4_ := q0.2 4 (by simp)
  have q5_ := q0.1 5 _ rfl
  have p5_ := q0.2 5 (by simp)
  have q6_ := q0.1 6 _ rfl
  have p6_ := q0.2 6 (by simp)
  have q7_ := q0.1 7 _ rfl
  have p7_ := q0.2 7 (by simp)
  have q8_ := q0.1 8 _ rfl
  have p8_ := q0.2 8 (by simp)
  have q9_ := q0.1 9 _ rfl
  have p9_ := q0.2 9 (by simp)
  have q10_ := q0.1 10 _ rfl
  have p10_ := q0.2 10 (by simp)
  have q11_ := q0.1 11 _ rfl
  have p11_ := q0.2 11 (by simp)
  have q12_ := q0.1 12 _ rfl
  have p12_ := q0.2 12 (by simp)
  have q13_ := q0.1 13 _ rfl
  have p13_ := q0.2 13 (by simp)
  have q14_ := q0.1 14 _ rfl
  have p14_ := q0.2 14 (by simp)
  have e0_ := zp.1 0 _ rfl
  have e1_ := zp.1 1 _ rfl
  have e2_ := zp.1 2 _ rfl
  have e3_ := zp.1 3 _ rfl
  have e4_ := zp.1 4 _ rfl
  have e5_ := zp.1 5 _ rfl
  have e6_ := zp.1 6 _ rfl
  have e7_ := zp.1 7 _ rfl
  have e8_ := zp.1 8 _ rfl
  have e9_ := zp.1 9 _ rfl
  have e10_ := zp.1 10 _ rfl
  have e11_ := zp.1 11 _ rfl
  have e12_ := zp.1 12 _ rfl
  have e13_ := zp.1 13 _ rfl
  have e14_ := zp.1 14 _ rfl
  have HBX := Lib.hid zp
  have HLA := Lib.hid zl
  have HB := Lib.hid zq
  have HL2 := Lib.hid hl2
  have HT3 := Lib.hid (HT.out.below zq)
  clear zp zq zl hAB3 hAB2 hb02 q0 hLA2 hb2 hA hs1 k0 k1 hl hc hm hnil hl2 hlk2
  go_wp2_with fail
  clear hw3 q0_ p0_ q1_ p1_ q2_ p2_ q3_ p3_ q4_ p4_ q5_ p5_ q6_ p6_ q7_ p7_ q8_ p8_ q9_ p9_ q10_ p10_ q11_ p11_ q12_ p12_ q13_ p13_ q14_ p14_
  refine (CF.out A2 l2 k2 HL2.out _ HLA.out HT3.out).mono ?_
  rintro e w4 ⟨rfl, hb4⟩
  have HBX4 := Lib.hid (HBX.out.keep hb4)
  have HLA4 := Lib.hid (HLA.out.below hb4)
  have HB4 := Lib.hid (HB.out.trans (hb4.mono HB.out.size))
  have HT4 := Lib.hid (HT.out.below HB4.out)
  clear hb4 e0_ e1_ e2_ e3_ e4_ e5_ e6_ e7_ e8_ e9_ e10_ e11_ e12_ e13_ e14_
  have hx := HBX4.out
  have f0_ := hx.1 0 _ rfl
  have f1_ := hx.1 1 _ rfl
  have f2_ := hx.1 2 _ rfl
  have f3_ := hx.1 3 _ rfl
  have f4_ := hx.1 4 _ rfl
  have f5_ := hx.1 5 _ rfl
  have f6_ := hx.1 6 _ rfl
  have f7_ := hx.1 7 _ rfl
  have f8_ := hx.1 8 _ rfl
  have f9_ := hx.1 9 _ rfl
  have f10_ := hx.1 10 _ rfl
  have f11_ := hx.1 11 _ rfl
  have f12_ := hx.1 12 _ rfl
  have f13_ := hx.1 13 _ rfl
  have f14_ := hx.1 14 _ rfl
  clear hx
  go_wp2_with fail
  refine (CR.out A2 l2 k2 HL2.out _ HLA4.out).mono ?_
  rintro e w5 ⟨rfl, hb5⟩
  have HBX5 := Lib.hid (HBX4.out.keep hb5)
  have HLA5 := Lib.hid (HLA4.out.below hb5)
  have HB5 := Lib.hid (HB4.out.trans (hb5.mono HB4.out.size))
  have HT5 := Lib.hid (HT.out.below HB5.out)
  clear hb5 f0_ f1_ f2_ f3_ f4_ f5_ f6_ f7_ f8_ f9_ f10_ f11_ f12_ f13_ f14_
  have hx := HBX5.out
  have g0_ := hx.1 0 _ rfl
  have g1_ := hx.1 1 _ rfl
  have g2_ := hx.1 2 _ rfl
  have g3_ := hx.1 3 _ rfl
  have g4_ := hx.1 4 _ rfl
  have g5_ := hx.1 5 _ rfl
  have g6_ := hx.1 6 _ rfl
  have g7_ := hx.1 7 _ rfl
  have g8_ := hx.1 8 _ rfl
  have g9_ := hx.1 9 _ rfl
  have g10_ := hx.1 10 _ rfl
  have g11_ := hx.1 11 _ rfl
  have g12_ := hx.1 12 _ rfl
  have g13_ := hx.1 13 _ rfl
  have g14_ := hx.1 14 _ rfl
  clear hx
  go_wp2_with fail
  refine (CW.out _ HT5.out).mono ?_
  rintro e w8 ⟨rfl, hb8⟩
  go_wp2
  go_ret
  exact ⟨rfl, HB5.out.trans (hb8.mono HB5.out.size)⟩
theorem walkWhole (c : Cn) {len : Nat} (A : Option Addr) (k : Nat) (L : List Pr) (hl : L.length = len) (hc : len ≤ k) (hm : k ≤ maxLen) (hnil : A = none → k = 0) (hfit : ∀ x ∈ L, PrF x) (off : Nat) (hoff : off < 18446744073709551616) (hf64 : -9223372036854775808 ≤ c.f ∧ c.f ≤ 9223372036854775807) (w : World) (hA : LinksAt w A L) (hT : T64 w) :
    Calls Tryd.prog 5 #[.agg (c.cells A len k).toArray, .int .u64 (off : Int)] w fun e w' => e = .returned (.bool true) ∧ Below w.heap.size w w' := by
  by_cases hF : faultN (cutC c) (L.take 40) = 0
  · exact walkWhole0 c A k L hl hc hm hnil hfit hF off hoff hf64 w hA hT
  · exact walkWhole1 c A k L hl hc hm hnil hfit hF off hoff hf64 w hA hT
end Go.Proofs.YtpbfacabafkheaaDoor
