/- The text of any configuration, and whether any two are the same: the law. -/
import Derived.Test.YtpbfacabafkheaaDoorCnW
import Derived.Test.YtpbfacabafkheaaDoorCnJ
import Derived.Test.YtpbfacabafkheaaDoorCnC
import Derived.Test.YtpbfacabafkheaaDoorCnH
import Derived.Test.YtpbfacabafkheaaDoorApStep
import Derived.Test.YtpbfacabafkheaaDoorRegP
import Derived.Deep.Cut
import Derived.Deep.CutRange
namespace Go.Proofs.YtpbfacabafkheaaDoor
open Go.RowKit Law
set_option linter.unusedVariables false
set_option linter.unusedSimpArgs false
set_option maxRecDepth 100000
attribute [local go_sem] Oper.semAt_some

theorem LinksAt.grown {X w4 : World} {A : Option Addr} {L : List Pr} {gb : Nat} (h : LinksAt X A L) (hg : X.grownBy w4 (some gb)) (hne : ∀ b off, A = some ⟨b, off, none⟩ → b ≠ gb) : LinksAt w4 A L := fun k e he => by
  obtain ⟨b, off, rfl, hlt, hc⟩ := h k e he
  refine ⟨b, off, rfl, Nat.lt_of_lt_of_le hlt hg.size, fun j v hv => ?_⟩
  rw [World.cell?_of_block (a := ⟨b, off + k * 2 + j, none⟩) (hg.block b hlt (fun e => hne b off rfl (Option.some.inj e)))]
  exact hc j v hv
set_option maxHeartbeats 12800000 in
theorem walkTexts (a b : Cn) (fa : FitsC a) (fb : FitsC b) {n m : Nat} (A B : Option Addr) (k d : Nat) (L M : List Pr) (hL : L.length = n) (hM : M.length = m) (hnk : n ≤ k) (hmd : m ≤ d) (hkm : k ≤ maxLen) (hdm : d ≤ maxLen) (hA0 : A = none → k = 0) (hB0 : B = none → d = 0) (fL : ∀ x ∈ L, PrF x) (fM : ∀ x ∈ M, PrF x) (w : World) (hA : LinksAt w A L) (hB : LinksAt w B M) (hT : T64 w) (hP : P10 w) :
    Calls Tryd.prog 6 #[.agg (a.cells A n k).toArray, .agg (b.cells B m d).toArray] w fun e w' => e = .returned (.bool true) ∧ Below w.heap.size w w' := by
  unfold maxLen at hkm hdm
  obtain ⟨n0, hn0⟩ : ∃ n0 : Nat, min (n : Int) 40 = (n0 : Int) ∧ n0 ≤ n ∧ n0 ≤ 40 ∧ (L.take 40).length = n0 := ⟨min n 40, by omega, by omega, by omega, by rw [List.length_take, hL]; omega⟩
  obtain ⟨m0, hm0⟩ : ∃ m0 : Nat, min (m : Int) 40 = (m0 : Int) ∧ m0 ≤ m ∧ m0 ≤ 40 ∧ (M.take 40).length = m0 := ⟨min m 40, by omega, by omega, by omega, by rw [List.length_take, hM]; omega⟩
  have hf40 : ∀ x ∈ L.take 40, PrF x := fun x hx => fL x (List.mem_of_mem_take hx)
  have hg40 : ∀ x ∈ M.take 40, PrF x := fun x hx => fM x (List.mem_of_mem_take hx)
  have hA1 := hA.take 40
  have hB1 := hB.take 40
  obtain ⟨L2, hL2⟩ : ∃ L2, L.take 40 = L2 := ⟨_, rfl⟩
  obtain ⟨M2, hM2⟩ : ∃ M2, M.take 40 = M2 := ⟨_, rfl⟩
  rw [hL2] at hn0 hf40 hA1
  rw [hM2] at hm0 hg40 hB1
  clear hL2 hM2 hA hB hL hM fL fM
  have CT := Lib.hid (fun (A1 : Option Addr) (c1 : Nat) (W : World) (hA : LinksAt W A1 L2) (hP : P10 W) => cText a fa A1 n0 c1 L2 hn0.2.2.2 hf40 (by omega) W hA hP)
  have CU := Lib.hid (fun (A1 : Option Addr) (c1 : Nat) (W : World) (hA : LinksAt W A1 L2) => rText a fa A1 n0 c1 L2 hn0.2.2.2 hf40 (by omega) W hA)
  have CS := Lib.hid (fun (A1 B1 : Option Addr) (c1 d1 : Nat) (W : World) (hA : LinksAt W A1 L2) (hB : LinksAt W B1 M2) => cSame a b A1 B1 n0 c1 m0 d1 L2 M2 hn0.2.2.2 hm0.2.2.2 (by omega) (by omega) W hA hB)
  have CR := Lib.hid (fun (A1 B1 : Option Addr) (c1 d1 : Nat) (W : World) (hA : LinksAt W A1 L2) (hB : LinksAt W B1 M2) => rSame a b fa fb A1 B1 c1 d1 L2 M2 hn0.2.2.2 hm0.2.2.2 hf40 hg40 (by omega) (by omega) W hA hB)
  have CX := Lib.hid (fun (A1 : Option Addr) (c1 : Nat) (W : World) (hA : LinksAt W A1 L2) => cSame a a A1 A1 n0 c1 n0 c1 L2 L2 hn0.2.2.2 hn0.2.2.2 (by omega) (by omega) W hA hA)
  rw [show sameB a a L2 L2 = true by unfold sameB; simp] at CX
  have CW := Lib.hid (fun (W : World) (hT : T64 W) => works48 W hT)
  obtain ⟨tx, htx⟩ : ∃ tx, textC a L2 = tx := ⟨_, rfl⟩
  rw [htx] at CT CU
  obtain ⟨SB, hSB⟩ : ∃ SB, sameB a b L2 M2 = SB := ⟨_, rfl⟩
  rw [hSB] at CS CR
  have HT := Lib.hid hT
  have HP := Lib.hid hP
  clear htx hSB hT hP fa fb
  have hmin := hn0.1
  have hmin2 := hm0.1
  have hmax : max (n0 : Int) 0 = (n0 : Int) := by omega
  have hmax2 : max (m0 : Int) 0 = (m0 : Int) := by omega
  have HN := Lib.hid hn0
  have HM := Lib.hid hm0
  have HNA : Hid (A = none → k = 0 ∧ n0 = 0) := fun h => by have := hA0 h; have := hn0.2.1; omega
  have HNB : Hid (B = none → d = 0 ∧ m0 = 0) := fun h => by have := hB0 h; have := hm0.2.1; omega
  have hn0n := hn0.2.1
  have hm0m := hm0.2.1
  clear hn0 hm0 hA0 hB0 hf40 hg40
  obtain ⟨i0, hi, hz0, hz1, hz2⟩ := info_parts prInfo
  obtain ⟨an, af, admin, admax, arho, aslew, around, awindow, aattend, aseen, ahist, afly, aquota, abody⟩ := a
  obtain ⟨bn, bf, bdmin, bdmax, brho, bslew, bround, bwindow, battend, bseen, bhist, bfly, bquota, bbody⟩ := b
  have k0 := boxF_made w [.int .i64 an, .slice A n k, .int .i64 af, .int .i64 admin, .int .i64 admax, .int .i64 arho, .int .i64 aslew, .int .i64 around, .int .i64 awindow, .int .i64 aattend, .int .i64 aseen, .int .i64 ahist, .int .i64 afly, .int .i64 aquota, .int .i64 abody] 24
  have k1 := (Below.refl w.heap.size w).alloc (Nat.le_refl _) (.cells #[.int .i64 an, .slice A n k, .int .i64 af, .int .i64 admin, .int .i64 admax, .int .i64 arho, .int .i64 aslew, .int .i64 around, .int .i64 awindow, .int .i64 aattend, .int .i64 aseen, .int .i64 ahist, .int .i64 afly, .int .i64 aquota, .int .i64 abody] 24)
  obtain ⟨w1, hw1⟩ : ∃ w1, w.alloc (.cells #[.int .i64 an, .slice A n k, .int .i64 af, .int .i64 admin, .int .i64 admax, .int .i64 arho, .int .i64 aslew, .int .i64 around, .int .i64 awindow, .int .i64 aattend, .int .i64 aseen, .int .i64 ahist, .int .i64 afly, .int .i64 aquota, .int .i64 abody] 24) = w1 := ⟨_, rfl⟩
  have hs1 : w1.heap.size = w.heap.size + 1 := by rw [← hw1]; simp
  rw [hw1] at k0 k1
  have k2 := boxF_made w1 [.int .i64 bn, .slice B m d, .int .i64 bf, .int .i64 bdmin, .int .i64 bdmax, .int .i64 brho, .int .i64 bslew, .int .i64 bround, .int .i64 bwindow, .int .i64 battend, .int .i64 bseen, .int .i64 bhist, .int .i64 bfly, .int .i64 bquota, .int .i64 bbody] 24
  have k3 := k0.keep ((Below.refl w1.heap.size w1).alloc (Nat.le_refl _) (.cells #[.int .i64 bn, .slice B m d, .int .i64 bf, .int .i64 bdmin, .int .i64 bdmax, .int .i64 brho, .int .i64 bslew, .int .i64 bround, .int .i64 bwindow, .int .i64 battend, .int .i64 bseen, .int .i64 bhist, .int .i64 bfly, .int .i64 bquota, .int .i64 bbody] 24))
  have k4 := k1.alloc (by rw [hs1]; omega) (.cells #[.int .i64 bn, .slice B m d, .int .i64 bf, .int .i64 bdmin, .int .i64 bdmax, .int .i64 brho, .int .i64 bslew, .int .i64 bround, .int .i64 bwindow, .int .i64 battend, .int .i64 bseen, .int .i64 bhist, .int .i64 bfly, .int .i64 bquota, .int .i64 bbody] 24)
  obtain ⟨w2, hw2⟩ : ∃ w2, w1.alloc (.cells #[.int .i64 bn, .slice B m d, .int .i64 bf, .int .i64 bdmin, .int .i64 bdmax, .int .i64 brho, .int .i64 bslew, .int .i64 bround, .int .i64 bwindow, .int .i64 battend, .int .i64 bseen, .int .i64 bhist, .int .i64 bfly, .int .i64 bquota, .int .i64 bbody] 24) = w2 := ⟨_, rfl⟩
  have hs2 : w2.heap.size = w1.heap.size + 1 := by rw [← hw2]; simp
  rw [hw2] at k2 k3 k4
  have hlt1 : w.heap.size < w2.heap.size := by omega
  have hlt2 : w1.heap.size < w2.heap.size := by omega
  have hne1 : w.heap.size ≠ w1.heap.size := by omega
  have HSZ := Lib.hid (And.intro hs1 hs2)
  have hA2 := hA1.below k4
  have hB2 := hB1.below k4
  have qa := k3.1 1 _ rfl
  have qb := k2.1 1 _ rfl
  have HKS : Hid (∀ X, Below w2.heap.size w2 X → X.cell? ⟨w.heap.size, 1, none⟩ = some (.slice A n k) ∧ X.cell? ⟨w1.heap.size, 1, none⟩ = some (.slice B m d)) := fun X h => ⟨(k3.keep h).1 1 _ rfl, (k2.keep h).1 1 _ rfl⟩
  have HB0 : Hid (Below w2.heap.size w2 w2.drew) := (Below.refl _ w2).drew
  have HB1 : Hid (Below w2.heap.size w2 (w2.drew.alloc (.cells #[] 60))) := (Below.refl _ w2).drew.alloc (by simp) _
  have HB2 : Hid (Below w2.heap.size w2 ((w2.drew.alloc (.cells #[] 60)).alloc (.cells #[] 60))) := ((Below.refl _ w2).drew.alloc (by simp) _).alloc (by simp) _
  have HE1 : Hid ((w2.drew.alloc (.cells #[] 60)).heap[w2.heap.size]? = some (.cells #[] 60 (0, 0))) := heap_alloc_here w2.drew (.cells #[] 60)
  have HE2 : Hid (((w2.drew.alloc (.cells #[] 60)).alloc (.cells #[] 60)).heap[w2.heap.size]? = some (.cells #[] 60 (0, 0))) := by
    have h := ((Below.refl (w2.drew.alloc (.cells #[] 60)).heap.size (w2.drew.alloc (.cells #[] 60))).alloc (Nat.le_refl _) (.cells #[] 60)).block w2.heap.size (by simp)
    exact h.trans HE1.out
  have HE3 : Hid (((w2.drew.alloc (.cells #[] 60)).alloc (.cells #[] 60)).heap[w2.heap.size + 1]? = some (.cells #[] 60 (0, 0))) := by
    have h := heap_alloc_here (w2.drew.alloc (.cells #[] 60)) (.cells #[] 60)
    rwa [show (w2.drew.alloc (.cells #[] 60)).heap.size = w2.heap.size + 1 by simp] at h
  have HKA := Lib.hid (fun (X : World) (h : Below w2.heap.size w2 X) => (hA2.below h).flat)
  have HKB := Lib.hid (fun (X : World) (h : Below w2.heap.size w2 X) => (hB2.below h).flat)
  have HK3 := Lib.hid k3
  have HK2 := Lib.hid k2
  have HK4 := Lib.hid k4
  have HLT := Lib.hid (And.intro hlt1 (And.intro hlt2 hne1))
  have hpa : (flatP L2).length = n0 * 2 := by rw [flatP_len, HN.out.2.2.2]
  have hpb : (flatP M2).length = m0 * 2 := by rw [flatP_len, HM.out.2.2.2]
  have hn40 := HN.out.2.2.1
  have hm40 := HM.out.2.2.1
  have ia : (0 : Int) ≤ (n0 : Int) ∧ (n0 : Int) ≤ (n : Int) ∧ (n0 : Int) ≤ (k : Int) ∧ (n : Int) ≤ (k : Int) := by omega
  have ib : (0 : Int) ≤ (m0 : Int) ∧ (m0 : Int) ≤ (m : Int) ∧ (m0 : Int) ≤ (d : Int) ∧ (m : Int) ≤ (d : Int) := by omega
  obtain ⟨ia0, ia1, ia2, ia3⟩ := ia
  obtain ⟨ib0, ib1, ib2, ib3⟩ := ib
  clear hs1 hs2 k0 k1 k2 k3 k4 hlt1 hlt2 hne1 hA1 hB1 hA2 hB2
  go_enter Tryd.func6, Tryd.ntmps6
  go_upto_region 1 with fail
  go_cut [] from 5 to 24 (fun wx => ∃ A1 c1 B1 d1, BoxF wx w.heap.size [.int .i64 an, .slice A1 n0 c1, .int .i64 af, .int .i64 admin, .int .i64 admax, .int .i64 arho, .int .i64 aslew, .int .i64 around, .int .i64 awindow, .int .i64 aattend, .int .i64 aseen, .int .i64 ahist, .int .i64 afly, .int .i64 aquota, .int .i64 abody] ∧ BoxF wx w1.heap.size [.int .i64 bn, .slice B1 m0 d1, .int .i64 bf, .int .i64 bdmin, .int .i64 bdmax, .int .i64 brho, .int .i64 bslew, .int .i64 bround, .int .i64 bwindow, .int .i64 battend, .int .i64 bseen, .int .i64 bhist, .int .i64 bfly, .int .i64 bquota, .int .i64 bbody] ∧ LinksAt wx A1 L2 ∧ LinksAt wx B1 M2 ∧ Below w.heap.size w wx)
  case first =>
    refine wp_region_phase 19 3 (fun W => Below w2.heap.size w2 W) (by kernel_rfl) (by rfl) 8 (by kernel_rfl) (by kernel_rfl) ?_
    intro HNS HTB
    refine T_first 1 8 _ (by rfl) HNS HTB (by kernel_rfl) (by kernel_rfl) (by intro c a t v w h; exact h) (HB0.out) (by rfl) (by intro W hW; have hc := HKS.out W hW; obtain ⟨z1, z2⟩ := hc; go_simp; with_reducible rfl) ?_
    simp only [Act.put, List.setIfInBounds_toArray, List.set_cons_zero, List.set_cons_succ]
    refine T_first 2 8 _ (by rfl) HNS HTB (by kernel_rfl) (by kernel_rfl) (by intro c a t v w h; exact h) (HB0.out) (by rfl) (by intro W hW; have hc := HKS.out W hW; obtain ⟨z1, z2⟩ := hc; go_simp; with_reducible rfl) ?_
    simp only [Act.put, List.setIfInBounds_toArray, List.set_cons_zero, List.set_cons_succ]
    refine T_first 3 8 _ (by rfl) HNS HTB (by kernel_rfl) (by kernel_rfl) (by intro c a t v w h; exact h) (HB0.out) (by rfl) (by intro W hW; have hc := HKS.out W hW; obtain ⟨z1, z2⟩ := hc; go_simp; with_reducible rfl) ?_
    simp only [Act.put, List.setIfInBounds_toArray, List.set_cons_zero, List.set_cons_succ]
    refine T_first 4 8 _ (by rfl) HNS HTB (by kernel_rfl) (by kernel_rfl) (by intro c a t v w h; exact h) (HB0.out) (by rfl) (by intro W hW; have hc := HKS.out W hW; obtain ⟨z1, z2⟩ := hc; go_simp; with_reducible rfl) ?_
    simp only [Act.put, List.setIfInBounds_toArray, List.set_cons_zero, List.set_cons_succ]
    refine T_first 5 8 _ (by rfl) HNS HTB (by kernel_rfl) (by kernel_rfl) (by intro c a t v w h; exact h) (HB0.out) (by rfl) (by intro W hW; have hc := HKS.out W hW; obtain ⟨z1, z2⟩ := hc; go_simp; with_reducible rfl) ?_
    simp only [Act.put, List.setIfInBounds_toArray, List.set_cons_zero, List.set_cons_succ]
    refine T_first 6 8 _ (by rfl) HNS HTB (by kernel_rfl) (by kernel_rfl) (by intro c a t v w h; exact h) (HB0.out) (by rfl) (by intro W hW; have hc := HKS.out W hW; obtain ⟨z1, z2⟩ := hc; go_simp; with_reducible rfl) ?_
    simp only [Act.put, List.setIfInBounds_toArray, List.set_cons_zero, List.set_cons_succ]
    refine T_first 7 8 _ (by rfl) HNS HTB (by kernel_rfl) (by kernel_rfl) (by intro c a t v w h; exact h) (HB0.out) (by rfl) (by intro W hW; have hc := HKS.out W hW; obtain ⟨z1, z2⟩ := hc; go_simp; with_reducible rfl) ?_
    simp only [Act.put, List.setIfInBounds_toArray, List.set_cons_zero, List.set_cons_succ]
    refine T_first 10 8 _ (by rfl) HNS HTB (by kernel_rfl) (by kernel_rfl) (by intro c a t v w h; exact h) (HB0.out) (by rfl) (by intro W hW; have hc := HKS.out W hW; obtain ⟨z1, z2⟩ := hc; go_simp; with_reducible rfl) ?_
    simp only [Act.put, List.setIfInBounds_toArray, List.set_cons_zero, List.set_cons_succ]
    refine T_first 11 8 _ (by rfl) HNS HTB (by kernel_rfl) (by kernel_rfl) (by intro c a t v w h; exact h) (HB0.out) (by rfl) (by intro W hW; have hc := HKS.out W hW; obtain ⟨z1, z2⟩ := hc; go_simp; with_reducible rfl) ?_
    simp only [Act.put, List.setIfInBounds_toArray, List.set_cons_zero, List.set_cons_succ]
    refine T_first 12 8 _ (by rfl) HNS HTB (by kernel_rfl) (by kernel_rfl) (by intro c a t v w h; exact h) (HB0.out) (by rfl) (by intro W hW; have hc := HKS.out W hW; obtain ⟨z1, z2⟩ := hc; go_simp; with_reducible rfl) ?_
    simp only [Act.put, List.setIfInBounds_toArray, List.set_cons_zero, List.set_cons_succ]
    refine T_first 13 8 _ (by rfl) HNS HTB (by kernel_rfl) (by kernel_rfl) (by intro c a t v w h; exact h) (HB0.out) (by rfl) (by intro W hW; have hc := HKS.out W hW; obtain ⟨z1, z2⟩ := hc; go_simp; with_reducible rfl) ?_
    simp only [Act.put, List.setIfInBounds_toArray, List.set_cons_zero, List.set_cons_succ]
    refine T_first 14 8 _ (by rfl) HNS HTB (by kernel_rfl) (by kernel_rfl) (by intro c a t v w h; exact h) (HB0.out) (by rfl) (by intro W hW; have hc := HKS.out W hW; obtain ⟨z1, z2⟩ := hc; go_simp; with_reducible rfl) ?_
    simp only [Act.put, List.setIfInBounds_toArray, List.set_cons_zero, List.set_cons_succ]
    refine T_first 15 8 _ (by rfl) HNS HTB (by kernel_rfl) (by kernel_rfl) (by intro c a t v w h; exact h) (HB0.out) (by rfl) (by intro W hW; have hc := HKS.out W hW; obtain ⟨z1, z2⟩ := hc; go_simp; with_reducible rfl) ?_
    simp only [Act.put, List.setIfInBounds_toArray, List.set_cons_zero, List.set_cons_succ]
    refine T_first 16 8 _ (by rfl) HNS HTB (by kernel_rfl) (by kernel_rfl) (by intro c a t v w h; exact h) (HB0.out) (by rfl) (by intro W hW; have hc := HKS.out W hW; obtain ⟨z1, z2⟩ := hc; go_simp; with_reducible rfl) ?_
    simp only [Act.put, List.setIfInBounds_toArray, List.set_cons_zero, List.set_cons_succ]
    refine T_two (i := 0) (k := 9) (by kernel_rfl) (by rfl) (by rfl) (by decide) (by decide) ?o1 ?o2
    case' o1 =>
      rw [if_pos (by rfl)]
      go_simp
      refine ⟨HB1.out, ?_⟩
      refine T_two (i := 8) (k := 9) (by kernel_rfl) (by rfl) (by rfl) (by decide) (by decide) ?o3 ?o4
      case' o3 =>
        refine step_append_copy _ (by rfl) _ _ 22 (by rfl) w2.heap.size 60 i0 _ 2 16 Tryd.underlying22 hi hz0 hz1 hz2 rfl (by decide) _ 0 [] (by rfl) (empty_own _ _ (HE1.out) (Nat.le_refl _)) A n0 k (flatP L2) (by rfl) HNA.out hpa (HKA.out _ (HB1.out)) flatP_one (by unfold maxLen; omega) (by omega) (by first | (simp; done) | (simp; omega)) ?_
        intro va w3 howna hgrowa hblka
        have hb3 : Below w2.heap.size w2 w3 := (HB1.out).grown hgrowa (by first | (simp; done) | (simp; omega)) (fun k hk => by simp [Value.ownBlock] at hk; omega)
        refine ⟨hb3, ?_⟩
        refine T_first 18 8 _ (by rfl) HNS HTB (by kernel_rfl) (by kernel_rfl) (by intro c a t v w h; exact h) (hb3) (by rfl) (by intro W hW; have hc := HKS.out W hW; obtain ⟨z1, z2⟩ := hc; go_simp; with_reducible rfl) ?_
        simp only [Act.put, List.setIfInBounds_toArray, List.set_cons_zero, List.set_cons_succ]
        refine T_one (i := 9) (by kernel_rfl) (by rfl) (by decide) ?_
        rw [if_pos (by rfl)]
        go_simp
        refine ⟨hb3.alloc hb3.size _, ?_⟩
        refine T_one (i := 17) (by kernel_rfl) (by rfl) (by decide) ?_
        refine step_append_copy _ (by rfl) _ _ 22 (by rfl) w2.heap.size 60 i0 _ 2 16 Tryd.underlying22 hi hz0 hz1 hz2 rfl (by decide) _ 0 [] (by rfl) (empty_own _ _ (heap_alloc_here _ _) (hb3.size)) B m0 d (flatP M2) (by rfl) HNB.out hpb (HKB.out _ (hb3.alloc hb3.size _)) flatP_one (by unfold maxLen; omega) (by omega) (by have := hb3.size; simp; omega) ?_
        intro vb w4 hownb hgrowb hblkb
        refine ⟨(hb3.alloc hb3.size _).grown hgrowb (by have := hb3.size; simp; omega) (fun k hk => by have := hb3.size; simp [Value.ownBlock] at hk; omega), ?_⟩
        have hgb := (show World.grownBy _ w4 (some w3.heap.size) from hgrowb)
        have ha' : w3.ownsRow w2.heap.size 60 2 va n0 (flatP L2) := by simpa using howna
        obtain ⟨A1, c1, rfl, hc1⟩ := own_form2 ha'
        have hb' : w4.ownsRow w2.heap.size 60 2 vb m0 (flatP M2) := by simpa using hownb
        obtain ⟨B1, d1, rfl, hd1⟩ := own_form2 hb'
        have HL4b := Lib.hid (ownLinks hb')
        have HL4a := Lib.hid (show LinksAt w4 A1 L2 from ((ownLinks ha').below ((Below.refl _ _).alloc (Nat.le_refl _) _)).grown hgb (fun b off h => by have := own_lt ha' b off h; omega))
        have hbA := Lib.hid (own_base ha')
        have hbB := Lib.hid (own_base hb')
        have hb4 : Below w2.heap.size w2 w4 := (hb3.alloc hb3.size _).grown hgrowb (by have := hb3.size; simp; omega) (fun k hk => by have := hb3.size; simp [Value.ownBlock] at hk; omega)
        clear hgb howna hownb hgrowa hgrowb hblka hblkb ha' hb' hb3
        refine T_done (by kernel_rfl) ?_
      case' o4 =>
        rw [if_pos (by rfl)]
        go_simp
        refine ⟨HB2.out, ?_⟩
        refine T_one (i := 8) (by kernel_rfl) (by rfl) (by decide) ?_
        refine step_append_copy _ (by rfl) _ _ 22 (by rfl) w2.heap.size 60 i0 _ 2 16 Tryd.underlying22 hi hz0 hz1 hz2 rfl (by decide) _ 0 [] (by rfl) (empty_own _ _ (HE2.out) (Nat.le_refl _)) A n0 k (flatP L2) (by rfl) HNA.out hpa (HKA.out _ (HB2.out)) flatP_one (by unfold maxLen; omega) (by omega) (by first | (simp; done) | (simp; omega)) ?_
        intro va w3 howna hgrowa hblka
        have hb3 : Below w2.heap.size w2 w3 := (HB2.out).grown hgrowa (by first | (simp; done) | (simp; omega)) (fun k hk => by simp [Value.ownBlock] at hk; omega)
        refine ⟨hb3, ?_⟩
        refine T_first 18 8 _ (by rfl) HNS HTB (by kernel_rfl) (by kernel_rfl) (by intro c a t v w h; exact h) (hb3) (by rfl) (by intro W hW; have hc := HKS.out W hW; obtain ⟨z1, z2⟩ := hc; go_simp; with_reducible rfl) ?_
        simp only [Act.put, List.setIfInBounds_toArray, List.set_cons_zero, List.set_cons_succ]
        refine T_one (i := 17) (by kernel_rfl) (by rfl) (by decide) ?_
        refine step_append_copy _ (by rfl) _ _ 22 (by rfl) w2.heap.size 60 i0 _ 2 16 Tryd.underlying22 hi hz0 hz1 hz2 rfl (by decide) _ 0 [] (by rfl) (empty_own _ _ ((hgrowa.block _ (by first | (simp; done) | (simp; omega)) (by simp [Value.ownBlock])).trans HE3.out) (Nat.le_succ _)) B m0 d (flatP M2) (by rfl) HNB.out hpb (HKB.out _ (hb3)) flatP_one (by unfold maxLen; omega) (by omega) (hb3.size) ?_
        intro vb w4 hownb hgrowb hblkb
        refine ⟨hb3.grown hgrowb hb3.size (fun k hk => by simp [Value.ownBlock] at hk; omega), ?_⟩
        have hgb := (show World.grownBy _ w4 (some (w2.heap.size + 1)) from hgrowb)
        have ha' : w3.ownsRow w2.heap.size 60 2 va n0 (flatP L2) := by simpa using howna
        obtain ⟨A1, c1, rfl, hc1⟩ := own_form2 ha'
        have hb' : w4.ownsRow w2.heap.size 60 2 vb m0 (flatP M2) := by simpa using hownb
        obtain ⟨B1, d1, rfl, hd1⟩ := own_form2 hb'
        have HL4b := Lib.hid (ownLinks hb')
        have HL4a := Lib.hid (show LinksAt w4 A1 L2 from (ownLinks ha').grown hgb (fun b off h => by subst h; simp [Value.ownBlock] at hblka; omega))
        have hbA := Lib.hid (own_base ha')
        have hbB := Lib.hid (own_base hb')
        have hb4 : Below w2.heap.size w2 w4 := hb3.grown hgrowb hb3.size (fun k hk => by simp [Value.ownBlock] at hk; omega)
        clear hgb howna hownb hgrowa hgrowb hblka hblkb ha' hb' hb3
        refine T_done (by kernel_rfl) ?_
    case' o2 =>
      rw [if_pos (by rfl)]
      go_simp
      refine ⟨HB1.out, ?_⟩
      refine T_one (i := 0) (by kernel_rfl) (by rfl) (by decide) ?_
      rw [if_pos (by rfl)]
      go_simp
      refine ⟨HB2.out, ?_⟩
      refine T_one (i := 8) (by kernel_rfl) (by rfl) (by decide) ?_
      refine step_append_copy _ (by rfl) _ _ 22 (by rfl) w2.heap.size 60 i0 _ 2 16 Tryd.underlying22 hi hz0 hz1 hz2 rfl (by decide) _ 0 [] (by rfl) (empty_own _ _ (HE3.out) (Nat.le_succ _)) A n0 k (flatP L2) (by rfl) HNA.out hpa (HKA.out _ (HB2.out)) flatP_one (by unfold maxLen; omega) (by omega) (by first | (simp; done) | (simp; omega)) ?_
      intro va w3 howna hgrowa hblka
      have hb3 : Below w2.heap.size w2 w3 := (HB2.out).grown hgrowa (by first | (simp; done) | (simp; omega)) (fun k hk => by simp [Value.ownBlock] at hk; omega)
      refine ⟨hb3, ?_⟩
      refine T_first 18 8 _ (by rfl) HNS HTB (by kernel_rfl) (by kernel_rfl) (by intro c a t v w h; exact h) (hb3) (by rfl) (by intro W hW; have hc := HKS.out W hW; obtain ⟨z1, z2⟩ := hc; go_simp; with_reducible rfl) ?_
      simp only [Act.put, List.setIfInBounds_toArray, List.set_cons_zero, List.set_cons_succ]
      refine T_one (i := 17) (by kernel_rfl) (by rfl) (by decide) ?_
      refine step_append_copy _ (by rfl) _ _ 22 (by rfl) w2.heap.size 60 i0 _ 2 16 Tryd.underlying22 hi hz0 hz1 hz2 rfl (by decide) _ 0 [] (by rfl) (empty_own _ _ ((hgrowa.block _ (by first | (simp; done) | (simp; omega)) (by simp [Value.ownBlock])).trans HE2.out) (Nat.le_refl _)) B m0 d (flatP M2) (by rfl) HNB.out hpb (HKB.out _ (hb3)) flatP_one (by unfold maxLen; omega) (by omega) (hb3.size) ?_
      intro vb w4 hownb hgrowb hblkb
      refine ⟨hb3.grown hgrowb hb3.size (fun k hk => by simp [Value.ownBlock] at hk; omega), ?_⟩
      have hgb := (show World.grownBy _ w4 (some w2.heap.size) from hgrowb)
      have ha' : w3.ownsRow w2.heap.size 60 2 va n0 (flatP L2) := by simpa using howna
      obtain ⟨A1, c1, rfl, hc1⟩ := own_form2 ha'
      have hb' : w4.ownsRow w2.heap.size 60 2 vb m0 (flatP M2) := by simpa using hownb
      obtain ⟨B1, d1, rfl, hd1⟩ := own_form2 hb'
      have HL4b := Lib.hid (ownLinks hb')
      have HL4a := Lib.hid (show LinksAt w4 A1 L2 from (ownLinks ha').grown hgb (fun b off h => by subst h; simp [Value.ownBlock] at hblka; omega))
      have hbA := Lib.hid (own_base ha')
      have hbB := Lib.hid (own_base hb')
      have hb4 : Below w2.heap.size w2 w4 := hb3.grown hgrowb hb3.size (fun k hk => by simp [Value.ownBlock] at hk; omega)
      clear hgb howna hownb hgrowa hgrowb hblka hblkb ha' hb' hb3
      refine T_done (by kernel_rfl) ?_
    all_goals
      have x0 := HK3.out.keep hb4
      have x1 := HK2.out.keep hb4
      have hAB0 : ∀ b off, A1 = some ⟨b, off, none⟩ → w.heap.size ≠ b := fun b off h => by have := hbA.out b off h; have := HLT.out; omega
      have hAB1 : ∀ b off, A1 = some ⟨b, off, none⟩ → w1.heap.size ≠ b := fun b off h => by have := hbA.out b off h; have := HLT.out; omega
      have hBB0 : ∀ b off, B1 = some ⟨b, off, none⟩ → w.heap.size ≠ b := fun b off h => by have := hbB.out b off h; have := HLT.out; omega
      have hBB1 : ∀ b off, B1 = some ⟨b, off, none⟩ → w1.heap.size ≠ b := fun b off h => by have := hbB.out b off h; have := HLT.out; omega
      have y0 := (x0.put 1 (by simp) (.slice A1 n0 c1)).other (a := ⟨w1.heap.size, 1, none⟩) (Ne.symm HLT.out.2.2) (.slice B1 m0 d1)
      have y1 := (x1.other (a := ⟨w.heap.size, 1, none⟩) HLT.out.2.2 (.slice A1 n0 c1)).put 1 (by simp) (.slice B1 m0 d1)
      have y2 := set_links hAB1 1 (.slice B1 m0 d1) (set_links hAB0 1 (.slice A1 n0 c1) HL4a.out)
      have y3 := set_links hBB1 1 (.slice B1 m0 d1) (set_links hBB0 1 (.slice A1 n0 c1) HL4b.out)
      have y4 := ((HK4.out.trans (hb4.mono (Nat.le_of_lt HLT.out.1))).setCell (p := ⟨w.heap.size, 1, none⟩) (Nat.le_refl _) (.slice A1 n0 c1)).setCell (p := ⟨w1.heap.size, 1, none⟩) (by have := HLT.out; have := HSZ.out; show w.heap.size ≤ w1.heap.size; omega) (.slice B1 m0 d1)
      have r0 := x0.1 1 _ rfl
      have r1 := x0.2 1 (by simp)
      have s0 := x1.1 1 _ rfl
      have s1 := x1.2 1 (by simp)
      have hne := HLT.out.2.2
      have x1o := x1.other (a := ⟨w.heap.size, 1, none⟩) HLT.out.2.2 (.slice A1 n0 c1)
      have t0 := x1o.1 1 _ rfl
      have t1 := x1o.2 1 (by simp)
      obtain ⟨w5, hw5⟩ : ∃ w5, w4.setCell ⟨w.heap.size, 1, none⟩ (.slice A1 n0 c1) = w5 := ⟨_, rfl⟩
      rw [hw5] at y0 y1 y2 y3 y4 t0 t1
      obtain ⟨w6, hw6⟩ : ∃ w6, w5.setCell ⟨w1.heap.size, 1, none⟩ (.slice B1 m0 d1) = w6 := ⟨_, rfl⟩
      rw [hw6] at y0 y1 y2 y3 y4
      simp only [List.set_cons_succ, List.set_cons_zero] at y0 y1
      have HEND := Lib.hid (And.intro y0 (And.intro y1 (And.intro y2 (And.intro y3 y4))))
      clear x0 x1 hAB0 hAB1 hBB0 hBB1 y0 y1 y2 y3 y4 hne x1o qa qb
      refine wpAny_seq 19 (by kernel_rfl) (by rfl) (by rfl) ?_
      go_wp2_with fail
      go_meet
      case rel => exact ⟨A1, c1, B1, d1, HEND.out⟩
  case rest =>
    as_aux_lemma =>
      obtain ⟨A1, c1, B1, d1, y0, y1, y2, y3, y4⟩ := hcut
      have HY2 := Lib.hid y2
      have HY3 := Lib.hid y3
      have HY4 := Lib.hid y4
      have hT6 := HT.out.below y4
      have hP6 := HP.out.below y4
      have qa0 := fun U : Later wc => (y0.keep U.h).1 0 _ rfl
      have qb0 := fun U : Later wc => (y1.keep U.h).1 0 _ rfl
      have qa1 := fun U : Later wc => (y0.keep U.h).1 1 _ rfl
      have qb1 := fun U : Later wc => (y1.keep U.h).1 1 _ rfl
      have qa2 := fun U : Later wc => (y0.keep U.h).1 2 _ rfl
      have qb2 := fun U : Later wc => (y1.keep U.h).1 2 _ rfl
      have qa3 := fun U : Later wc => (y0.keep U.h).1 3 _ rfl
      have qb3 := fun U : Later wc => (y1.keep U.h).1 3 _ rfl
      have qa4 := fun U : Later wc => (y0.keep U.h).1 4 _ rfl
      have qb4 := fun U : Later wc => (y1.keep U.h).1 4 _ rfl
      have qa5 := fun U : Later wc => (y0.keep U.h).1 5 _ rfl
      have qb5 := fun U : Later wc => (y1.keep U.h).1 5 _ rfl
      have qa6 := fun U : Later wc => (y0.keep U.h).1 6 _ rfl
      have qb6 := fun U : Later wc => (y1.keep U.h).1 6 _ rfl
      have qa7 := fun U : Later wc => (y0.keep U.h).1 7 _ rfl
      have qb7 := fun U : Later wc => (y1.keep U.h).1 7 _ rfl
      have qa8 := fun U : Later wc => (y0.keep U.h).1 8 _ rfl
      have qb8 := fun U : Later wc => (y1.keep U.h).1 8 _ rfl
      have qa9 := fun U : Later wc => (y0.keep U.h).1 9 _ rfl
      have qb9 := fun U : Later wc => (y1.keep U.h).1 9 _ rfl
      have qa10 := fun U : Later wc => (y0.keep U.h).1 10 _ rfl
      have qb10 := fun U : Later wc => (y1.keep U.h).1 10 _ rfl
      have qa11 := fun U : Later wc => (y0.keep U.h).1 11 _ rfl
      have qb11 := fun U : Later wc => (y1.keep U.h).1 11 _ rfl
      have qa12 := fun U : Later wc => (y0.keep U.h).1 12 _ rfl
      have qb12 := fun U : Later wc => (y1.keep U.h).1 12 _ rfl
      have qa13 := fun U : Later wc => (y0.keep U.h).1 13 _ rfl
      have qb13 := fun U : Later wc => (y1.keep U.h).1 13 _ rfl
      have qa14 := fun U : Later wc => (y0.keep U.h).1 14 _ rfl
      have qb14 := fun U : Later wc => (y1.keep U.h).1 14 _ rfl
      have D1 := Lib.hid (fun U : Later wc => CT.out A1 c1 U.val (HY2.out.below U.h) (hP6.later U))
      have D2 := Lib.hid (fun U : Later wc => CU.out A1 c1 U.val (HY2.out.below U.h))
      have D3 := Lib.hid (fun U : Later wc => CS.out A1 B1 c1 d1 U.val (HY2.out.below U.h) (HY3.out.below U.h))
      have D4 := Lib.hid (fun U : Later wc => CR.out A1 B1 c1 d1 U.val (HY2.out.below U.h) (HY3.out.below U.h))
      have D5 := Lib.hid (fun U : Later wc => CX.out A1 c1 U.val (HY2.out.below U.h))
      have D6 := Lib.hid (fun U : Later wc => CW.out U.val (hT6.later U))
      clear y0 y1 y2 y3 y4
      go_wp2_with fail
      refine wp_region_later (by kernel_rfl) (by kernel_rfl) ?_
      go_big_quiet_step (fail)
      go_big_quiet_step (exact later_of (D1.out _))
      go_big_quiet_step (fail)
      go_big_quiet_step (exact later_of (D2.out _))
      iterate 4 (go_big_quiet_step (fail))
      go_big_quiet_step (exact later_of (D3.out _))
      iterate 2 (go_big_quiet_step (fail))
      go_big_quiet_step (exact later_of (D4.out _))
      iterate 5 (go_big_quiet_step (fail))
      go_big_quiet_step (exact later_of (D5.out _))
      iterate 2 (go_big_quiet_step (fail))
      go_big_quiet_step (exact later_of (D6.out _))
      repeat (go_big_quiet_step (fail))
      refine wpQuiet_nil ?_
      rintro W9 ⟨⟨W9_, hb9⟩, rfl⟩
      go_wp2
      go_ret
      exact ⟨ret_bool (by simp), HY4.out.trans ((show Below wc.heap.size wc W9 from hb9).mono HY4.out.size)⟩
end Go.Proofs.YtpbfacabafkheaaDoor
