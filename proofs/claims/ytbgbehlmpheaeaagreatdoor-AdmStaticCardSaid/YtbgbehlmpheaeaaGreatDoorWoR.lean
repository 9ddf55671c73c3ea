/- The chapter's example: works51; the law of a cluster that is nil. -/
import Derived.Test.YtbgbehlmpheaeaaGreatDoorWoQ
import Derived.Test.YtbgbehlmpheaeaaGreatDoorCnF
namespace Go.Proofs.YtbgbehlmpheaeaaGreatDoor
open Go.RowKit Law
set_option linter.unusedVariables false
set_option linter.unusedSimpArgs false
set_option maxRecDepth 100000

theorem callNamed {P : Program} {f : FuncId} {args : Array Value} {w : World} {post : Ending → World → Prop} (h : ∀ W, W = w → Calls P f args W post) : Calls P f args w post := h w rfl
set_option maxHeartbeats 12800000 in
theorem works51 (w : World) (hT : T64 w) : Calls Tryz.prog 7 #[] w fun e w' => e = .returned (.bool true) ∧ Below w.heap.size w w' := by
  have CS := rSmall 3 1 1 0 w
  have HT := Lib.hid hT
  unfold SmallPost at CS
  rw [show (3 : Int).toNat = 3 from rfl, ex51_len, show sugC (smallC 3 1 1 0) = exC51 from rfl] at CS
  have CS := Lib.hid CS
  have HOK := Lib.hid ex51_ok
  have HIS := Lib.hid (fun (A1 : Option Addr) (k1 R0 : Nat) (W : World) (hL : LinksAt W A1 (fullL 3)) (hrow : BoxAt W R0 (flatA [awT 3, awC 0, awT 3])) (hT : T64 W) => admIs51 (k := k1) hL hrow hT)
  have hfit := full_fit (n := 3) (by omega)
  have HS2 := Lib.hid (fun (A1 : Option Addr) (k1 R0 : Nat) (W : World) (hL : LinksAt W A1 (fullL 3)) (hrow : BoxAt W R0 (flatA [awC 0, awC 1])) (hT : T64 W) => admStatic exC51 A1 3 k1 (fullL 3) ex51_len hfit (by omega) (fun _ => by have := ex51_n.1; omega) (by have := ex51_n.2.1; omega) (by have := ex51_n.2.1; omega) (A := some ⟨R0, 0, none⟩) (xs := [awC 0, awC 1]) (n := 2) (cp := 2) (by intro x hx; simp only [List.mem_cons, List.not_mem_nil, or_false] at hx; rcases hx with rfl | rfl <;> rfl) rfl (by omega) W hL (actsOf hrow (by intro x hx; simp only [List.mem_cons, List.not_mem_nil, or_false] at hx; rcases hx with rfl | rfl <;> rfl)) hT)
  have HS3 := Lib.hid (fun (A1 : Option Addr) (k1 R0 : Nat) (W : World) (hL : LinksAt W A1 (fullL 3)) (hrow : BoxAt W R0 (flatA [awD 1])) (hT : T64 W) => admStatic exC51 A1 3 k1 (fullL 3) ex51_len hfit (by omega) (fun _ => by have := ex51_n.1; omega) (by have := ex51_n.2.1; omega) (by have := ex51_n.2.1; omega) (A := some ⟨R0, 0, none⟩) (xs := [awD 1]) (n := 1) (cp := 1) (by intro x hx; simp only [List.mem_cons, List.not_mem_nil, or_false] at hx; rcases hx with rfl; rfl) rfl (by omega) W hL (actsOf hrow (by intro x hx; simp only [List.mem_cons, List.not_mem_nil, or_false] at hx; rcases hx with rfl; rfl)) hT)
  unfold StatPost at HS2 HS3
  rw [ex51_s2] at HS2
  rw [ex51_s3] at HS3
  clear hT hfit
  obtain ⟨sc, hsc⟩ : ∃ sc, exC51 = sc := ⟨_, rfl⟩
  rw [hsc] at CS HOK HIS HS2 HS3
  clear hsc
  obtain ⟨n, f, dmin, dmax, rho, slew, round, window, attend, seen, hist, fly, quota, body⟩ := sc
  simp only [Cn.cells] at CS HIS HS2 HS3
  go_enter Tryz.func7, Tryz.ntmps7
  go_wp2_with fail
  refine CS.out.mono ?_
  rintro e w1 ⟨hb1, -, -, hgood⟩
  obtain ⟨A1, k1, rfl, hLA, -⟩ := hgood (by omega) HOK.out
  have H1 := Lib.hid (And.intro hb1 (And.intro hLA (HT.out.below hb1)))
  clear hb1 hgood hLA
  obtain ⟨x1, hx1⟩ : ∃ x, w1.alloc (.cells #[.int .i64 n, .slice A1 3 k1, .int .i64 f, .int .i64 dmin, .int .i64 dmax, .int .i64 rho, .int .i64 slew, .int .i64 round, .int .i64 window, .int .i64 attend, .int .i64 seen, .int .i64 hist, .int .i64 fly, .int .i64 quota, .int .i64 body] 24) = x := ⟨_, rfl⟩
  have k1 : BoxF x1 w1.heap.size [.int .i64 n, .slice A1 3 k1, .int .i64 f, .int .i64 dmin, .int .i64 dmax, .int .i64 rho, .int .i64 slew, .int .i64 round, .int .i64 window, .int .i64 attend, .int .i64 seen, .int .i64 hist, .int .i64 fly, .int .i64 quota, .int .i64 body] := hx1 ▸ boxF_made w1 [.int .i64 n, .slice A1 3 k1, .int .i64 f, .int .i64 dmin, .int .i64 dmax, .int .i64 rho, .int .i64 slew, .int .i64 round, .int .i64 window, .int .i64 attend, .int .i64 seen, .int .i64 hist, .int .i64 fly, .int .i64 quota, .int .i64 body] 24
  have s1 : x1.heap.size = w1.heap.size + 1 := by rw [← hx1]; simp
  have b1 : Below w1.heap.size w1 x1 := by rw [← hx1]; exact (Below.refl _ _).alloc (Nat.le_refl _) _
  have HX1 := Lib.hid hx1
  clear hx1
  obtain ⟨x2, hx2⟩ : ∃ x, x1.alloc (.cells #[.int .i64 1, .int .i64 0, .int .i64 3, .int .i64 0, .int .i64 0, .int .i64 0, .int .u32 0, .int .u32 0, .slice none 0 0] 35) = x := ⟨_, rfl⟩
  have k2 : BoxF x2 x1.heap.size [.int .i64 1, .int .i64 0, .int .i64 3, .int .i64 0, .int .i64 0, .int .i64 0, .int .u32 0, .int .u32 0, .slice none 0 0] := hx2 ▸ boxF_made x1 [.int .i64 1, .int .i64 0, .int .i64 3, .int .i64 0, .int .i64 0, .int .i64 0, .int .u32 0, .int .u32 0, .slice none 0 0] 35
  have s2 : x2.heap.size = x1.heap.size + 1 := by rw [← hx2]; simp
  have b2 : Below x1.heap.size x1 x2 := by rw [← hx2]; exact (Below.refl _ _).alloc (Nat.le_refl _) _
  have HX2 := Lib.hid hx2
  clear hx2
  obtain ⟨x3, hx3⟩ : ∃ x, x2.alloc (.cells #[.int .i64 4, .int .i64 0, .int .i64 0, .int .i64 0, .int .i64 0, .int .i64 0, .int .u32 0, .int .u32 0, .slice none 0 0] 35) = x := ⟨_, rfl⟩
  have k3 : BoxF x3 x2.heap.size [.int .i64 4, .int .i64 0, .int .i64 0, .int .i64 0, .int .i64 0, .int .i64 0, .int .u32 0, .int .u32 0, .slice none 0 0] := hx3 ▸ boxF_made x2 [.int .i64 4, .int .i64 0, .int .i64 0, .int .i64 0, .int .i64 0, .int .i64 0, .int .u32 0, .int .u32 0, .slice none 0 0] 35
  have s3 : x3.heap.size = x2.heap.size + 1 := by rw [← hx3]; simp
  have b3 : Below x2.heap.size x2 x3 := by rw [← hx3]; exact (Below.refl _ _).alloc (Nat.le_refl _) _
  have HX3 := Lib.hid hx3
  clear hx3
  obtain ⟨x4, hx4⟩ : ∃ x, x3.alloc (.cells #[.int .i64 4, .int .i64 1, .int .i64 0, .int .i64 0, .int .i64 0, .int .i64 0, .int .u32 0, .int .u32 0, .slice none 0 0] 35) = x := ⟨_, rfl⟩
  have k4 : BoxF x4 x3.heap.size [.int .i64 4, .int .i64 1, .int .i64 0, .int .i64 0, .int .i64 0, .int .i64 0, .int .u32 0, .int .u32 0, .slice none 0 0] := hx4 ▸ boxF_made x3 [.int .i64 4, .int .i64 1, .int .i64 0, .int .i64 0, .int .i64 0, .int .i64 0, .int .u32 0, .int .u32 0, .slice none 0 0] 35
  have s4 : x4.heap.size = x3.heap.size + 1 := by rw [← hx4]; simp
  have b4 : Below x3.heap.size x3 x4 := by rw [← hx4]; exact (Below.refl _ _).alloc (Nat.le_refl _) _
  have HX4 := Lib.hid hx4
  clear hx4
  obtain ⟨x5, hx5⟩ : ∃ x, x4.alloc (.cells #[.int .i64 2, .int .i64 0, .int .i64 1, .int .i64 0, .int .i64 0, .int .i64 0, .int .u32 0, .int .u32 0, .slice none 0 0] 35) = x := ⟨_, rfl⟩
  have k5 : BoxF x5 x4.heap.size [.int .i64 2, .int .i64 0, .int .i64 1, .int .i64 0, .int .i64 0, .int .i64 0, .int .u32 0, .int .u32 0, .slice none 0 0] := hx5 ▸ boxF_made x4 [.int .i64 2, .int .i64 0, .int .i64 1, .int .i64 0, .int .i64 0, .int .i64 0, .int .u32 0, .int .u32 0, .slice none 0 0] 35
  have s5 : x5.heap.size = x4.heap.size + 1 := by rw [← hx5]; simp
  have b5 : Below x4.heap.size x4 x5 := by rw [← hx5]; exact (Below.refl _ _).alloc (Nat.le_refl _) _
  have HX5 := Lib.hid hx5
  clear hx5
  obtain ⟨x6, hx6⟩ : ∃ x, x5.alloc (.cells #[.int .i64 1, .int .i64 0, .int .i64 3, .int .i64 0, .int .i64 0, .int .i64 0, .int .u32 0, .int .u32 0, .slice none 0 0, .int .i64 4, .int .i64 0, .int .i64 0, .int .i64 0, .int .i64 0, .int .i64 0, .int .u32 0, .int .u32 0, .slice none 0 0, .int .i64 1, .int .i64 0, .int .i64 3, .int .i64 0, .int .i64 0, .int .i64 0, .int .u32 0, .int .u32 0, .slice none 0 0] 35) = x := ⟨_, rfl⟩
  have k6 : BoxF x6 x5.heap.size [.int .i64 1, .int .i64 0, .int .i64 3, .int .i64 0, .int .i64 0, .int .i64 0, .int .u32 0, .int .u32 0, .slice none 0 0, .int .i64 4, .int .i64 0, .int .i64 0, .int .i64 0, .int .i64 0, .int .i64 0, .int .u32 0, .int .u32 0, .slice none 0 0, .int .i64 1, .int .i64 0, .int .i64 3, .int .i64 0, .int .i64 0, .int .i64 0, .int .u32 0, .int .u32 0, .slice none 0 0] := hx6 ▸ boxF_made x5 [.int .i64 1, .int .i64 0, .int .i64 3, .int .i64 0, .int .i64 0, .int .i64 0, .int .u32 0, .int .u32 0, .slice none 0 0, .int .i64 4, .int .i64 0, .int .i64 0, .int .i64 0, .int .i64 0, .int .i64 0, .int .u32 0, .int .u32 0, .slice none 0 0, .int .i64 1, .int .i64 0, .int .i64 3, .int .i64 0, .int .i64 0, .int .i64 0, .int .u32 0, .int .u32 0, .slice none 0 0] 35
  have s6 : x6.heap.size = x5.heap.size + 1 := by rw [← hx6]; simp
  have b6 : Below x5.heap.size x5 x6 := by rw [← hx6]; exact (Below.refl _ _).alloc (Nat.le_refl _) _
  have HX6 := Lib.hid hx6
  clear hx6
  have j1 := (((((k1).keep b2).keep b3).keep b4).keep b5).keep b6
  have j2 := ((((k2).keep b3).keep b4).keep b5).keep b6
  have j3 := (((k3).keep b4).keep b5).keep b6
  have j4 := ((k4).keep b5).keep b6
  have j5 := (k5).keep b6
  have j6 := k6
  rw [s1] at s2
  rw [s2] at s3
  rw [s3] at s4
  rw [s4] at s5
  rw [s1] at j2
  rw [s2] at j3
  rw [s3] at j4
  rw [s4] at j5
  rw [s5] at j6
  have bb : Below w1.heap.size w1 x6 := b1.trans ((b2.mono (by omega)).trans ((b3.mono (by omega)).trans ((b4.mono (by omega)).trans ((b5.mono (by omega)).trans (b6.mono (by omega))))))
  have H6 := Lib.hid (And.intro j1 (And.intro j3 (And.intro j4 (And.intro j5 (And.intro j6 (And.intro bb (And.intro (H1.out.2.1.below bb) (And.intro (H1.out.2.2.below bb) (H1.out.1.trans (bb.mono H1.out.1.size)))))))))) 
  clear k1 s1 b1 k2 s2 b2 k3 s3 b3 k4 s4 b4 k5 s5 b5 k6 s6 b6 j1 j2 j3 j4 j5 j6 bb
  go_wp2_with fail
  refine callNamed ?_
  intro W5 hW5
  rw [HX1.out, HX2.out, HX3.out, HX4.out, HX5.out, HX6.out] at hW5
  subst hW5
  clear HX1 HX2 HX3 HX4 HX5 HX6
  refine (HIS.out A1 k1 _ W5 H6.out.2.2.2.2.2.2.1 H6.out.2.2.2.2.1.1 H6.out.2.2.2.2.2.2.2.1).mono ?_
  rintro e w7 ⟨rfl, hb7⟩
  have H7 := Lib.hid (And.intro (H6.out.1.keep hb7) (And.intro (H6.out.2.1.keep hb7) (And.intro (H6.out.2.2.1.keep hb7) (And.intro (H6.out.2.2.2.1.keep hb7) (And.intro (H6.out.2.2.2.2.2.2.1.below hb7) (And.intro (H6.out.2.2.2.2.2.2.2.1.below hb7) (H6.out.2.2.2.2.2.2.2.2.trans (hb7.mono H6.out.2.2.2.2.2.2.2.2.size))))))))
  have q1 := H7.out.1
  have q2 := H7.out.2.1
  have q3 := H7.out.2.2.1
  have u0 := q1.1 0 _ rfl
  have u1 := q1.1 1 _ rfl
  have u2 := q1.1 2 _ rfl
  have u3 := q1.1 3 _ rfl
  have u4 := q1.1 4 _ rfl
  have u5 := q1.1 5 _ rfl
  have u6 := q1.1 6 _ rfl
  have u7 := q1.1 7 _ rfl
  have u8 := q1.1 8 _ rfl
  have u9 := q1.1 9 _ rfl
  have u10 := q1.1 10 _ rfl
  have u11 := q1.1 11 _ rfl
  have u12 := q1.1 12 _ rfl
  have u13 := q1.1 13 _ rfl
  have u14 := q1.1 14 _ rfl
  have v0 := q2.1 0 _ rfl
  have v1 := q2.1 1 _ rfl
  have v2 := q2.1 2 _ rfl
  have v3 := q2.1 3 _ rfl
  have v4 := q2.1 4 _ rfl
  have v5 := q2.1 5 _ rfl
  have v6 := q2.1 6 _ rfl
  have v7 := q2.1 7 _ rfl
  have v8 := q2.1 8 _ rfl
  have z0 := q3.1 0 _ rfl
  have z1 := q3.1 1 _ rfl
  have z2 := q3.1 2 _ rfl
  have z3 := q3.1 3 _ rfl
  have z4 := q3.1 4 _ rfl
  have z5 := q3.1 5 _ rfl
  have z6 := q3.1 6 _ rfl
  have z7 := q3.1 7 _ rfl
  have z8 := q3.1 8 _ rfl
  clear hb7 q1 q2 q3
  have b8 := (Below.refl w7.heap.size w7).alloc (Nat.le_refl _) (.cells #[.int .i64 4, .int .i64 0, .int .i64 0, .int .i64 0, .int .i64 0, .int .i64 0, .int .u32 0, .int .u32 0, .slice none 0 0, .int .i64 4, .int .i64 1, .int .i64 0, .int .i64 0, .int .i64 0, .int .i64 0, .int .u32 0, .int .u32 0, .slice none 0 0] 35)
  have k8 := boxAt_made w7 [.int .i64 4, .int .i64 0, .int .i64 0, .int .i64 0, .int .i64 0, .int .i64 0, .int .u32 0, .int .u32 0, .slice none 0 0, .int .i64 4, .int .i64 1, .int .i64 0, .int .i64 0, .int .i64 0, .int .i64 0, .int .u32 0, .int .u32 0, .slice none 0 0] 35
  obtain ⟨x8, hx8⟩ : ∃ x, w7.alloc (.cells #[.int .i64 4, .int .i64 0, .int .i64 0, .int .i64 0, .int .i64 0, .int .i64 0, .int .u32 0, .int .u32 0, .slice none 0 0, .int .i64 4, .int .i64 1, .int .i64 0, .int .i64 0, .int .i64 0, .int .i64 0, .int .u32 0, .int .u32 0, .slice none 0 0] 35) = x := ⟨_, rfl⟩
  rw [hx8] at b8
  replace k8 : BoxAt x8 w7.heap.size [.int .i64 4, .int .i64 0, .int .i64 0, .int .i64 0, .int .i64 0, .int .i64 0, .int .u32 0, .int .u32 0, .slice none 0 0, .int .i64 4, .int .i64 1, .int .i64 0, .int .i64 0, .int .i64 0, .int .i64 0, .int .u32 0, .int .u32 0, .slice none 0 0] := hx8 ▸ k8
  have H8 := Lib.hid (And.intro k8 b8)
  clear k8 b8
  go_wp2_with fail
  clear u0 u1 u2 u3 u4 u5 u6 u7 u8 u9 u10 u11 u12 u13 u14 v0 z0 v1 z1 v2 z2 v3 z3 v4 z4 v5 z5 v6 z6 v7 z7 v8 z8 hx8
  refine (HS2.out A1 k1 _ x8 (H7.out.2.2.2.2.1.below H8.out.2) H8.out.1 (H7.out.2.2.2.2.2.1.below H8.out.2)).mono ?_
  rintro e w9 ⟨rfl, hb9⟩
  have hb79 := H8.out.2.trans (hb9.mono H8.out.2.size)
  have H9 := Lib.hid (And.intro (H7.out.1.keep hb79) (And.intro (H7.out.2.2.2.1.keep hb79) (And.intro (H7.out.2.2.2.2.1.below hb79) (And.intro (H7.out.2.2.2.2.2.1.below hb79) (H7.out.2.2.2.2.2.2.trans (hb79.mono H7.out.2.2.2.2.2.2.size))))))
  have q1 := H9.out.1
  have q2 := H9.out.2.1
  have u0 := q1.1 0 _ rfl
  have u1 := q1.1 1 _ rfl
  have u2 := q1.1 2 _ rfl
  have u3 := q1.1 3 _ rfl
  have u4 := q1.1 4 _ rfl
  have u5 := q1.1 5 _ rfl
  have u6 := q1.1 6 _ rfl
  have u7 := q1.1 7 _ rfl
  have u8 := q1.1 8 _ rfl
  have u9 := q1.1 9 _ rfl
  have u10 := q1.1 10 _ rfl
  have u11 := q1.1 11 _ rfl
  have u12 := q1.1 12 _ rfl
  have u13 := q1.1 13 _ rfl
  have u14 := q1.1 14 _ rfl
  have v0 := q2.1 0 _ rfl
  have v1 := q2.1 1 _ rfl
  have v2 := q2.1 2 _ rfl
  have v3 := q2.1 3 _ rfl
  have v4 := q2.1 4 _ rfl
  have v5 := q2.1 5 _ rfl
  have v6 := q2.1 6 _ rfl
  have v7 := q2.1 7 _ rfl
  have v8 := q2.1 8 _ rfl
  clear hb9 hb79 q1 q2
  have b8 := (Below.refl w9.heap.size w9).alloc (Nat.le_refl _) (.cells #[.int .i64 2, .int .i64 0, .int .i64 1, .int .i64 0, .int .i64 0, .int .i64 0, .int .u32 0, .int .u32 0, .slice none 0 0] 35)
  have k8 := boxAt_made w9 [.int .i64 2, .int .i64 0, .int .i64 1, .int .i64 0, .int .i64 0, .int .i64 0, .int .u32 0, .int .u32 0, .slice none 0 0] 35
  obtain ⟨x10, hx10⟩ : ∃ x, w9.alloc (.cells #[.int .i64 2, .int .i64 0, .int .i64 1, .int .i64 0, .int .i64 0, .int .i64 0, .int .u32 0, .int .u32 0, .slice none 0 0] 35) = x := ⟨_, rfl⟩
  rw [hx10] at b8
  replace k8 : BoxAt x10 w9.heap.size [.int .i64 2, .int .i64 0, .int .i64 1, .int .i64 0, .int .i64 0, .int .i64 0, .int .u32 0, .int .u32 0, .slice none 0 0] := hx10 ▸ k8
  have H10 := Lib.hid (And.intro k8 b8)
  clear k8 b8
  go_wp2_with fail
  clear u0 u1 u2 u3 u4 u5 u6 u7 u8 u9 u10 u11 u12 u13 u14 v0 v1 v2 v3 v4 v5 v6 v7 v8 hx10
  refine (HS3.out A1 k1 _ x10 (H9.out.2.2.1.below H10.out.2) H10.out.1 (H9.out.2.2.2.1.below H10.out.2)).mono ?_
  rintro e w11 ⟨rfl, hb11⟩
  have HF : Hid (Below w.heap.size w w11) := by
    have h2 := H10.out.2.trans (hb11.mono H10.out.2.size)
    exact H9.out.2.2.2.2.trans (h2.mono H9.out.2.2.2.2.size)
  clear hb11
  go_wp2
  go_ret
  exact ⟨rfl, HF.out⟩
end Go.Proofs.YtbgbehlmpheaeaaGreatDoor
