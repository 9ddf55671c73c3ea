/- node.New: a node is made. -/
import Derived.Test.YteahiphmhaedpaaGreatDoorNdI
import Derived.Test.YteahiphmhaedpaaGreatDoorNdP
namespace Go.Proofs.YteahiphmhaedpaaGreatDoor
open Go.RowKit Law
set_option linter.unusedVariables false
set_option linter.unusedSimpArgs false
set_option maxRecDepth 100000

theorem ndZ_len (n f dmin dmax rho slew round window attend seen hist fly quota body b0 b1 b2 b3 b4 b5 b6 b7 b8 b9 b10 b11 b12 b13 id pe pd nr : Int) (sr : Nat) : (ndZ n f dmin dmax rho slew round window attend seen hist fly quota body b0 b1 b2 b3 b4 b5 b6 b7 b8 b9 b10 b11 b12 b13 id pe pd nr sr).length = 141 := by simp [ndZ, ledZ]
theorem books_eq (lg pie : Nat) : ((Tryz.zeroCells155.toList.set 0 (.pointer (some ⟨lg, 0, none⟩))).set 69 (.pointer (some ⟨pie, 0, none⟩))) = (.pointer (some ⟨lg, 0, none⟩) :: (ledZ ++ [.bool false, .int .i64 0, .pointer (some ⟨pie, 0, none⟩)])) := by kernel_rfl
theorem ndL_eq (n f dmin dmax rho slew round window attend seen hist fly quota body : Int) (i nr : Nat) (hard : Int) (sr N sw ck tmp tab sen rel htm htb hq hst quo rom rol jn vws lg pim pie : Nat) : putL (putL (putL (putL (ndZ n f dmin dmax rho slew round window attend seen hist fly quota body (bHops ⟨n, f, dmin, dmax, rho, slew, round, window, attend, seen, hist, fly, quota, body⟩) (bFast ⟨n, f, dmin, dmax, rho, slew, round, window, attend, seen, hist, fly, quota, body⟩) (bSlow ⟨n, f, dmin, dmax, rho, slew, round, window, attend, seen, hist, fly, quota, body⟩) (bLink ⟨n, f, dmin, dmax, rho, slew, round, window, attend, seen, hist, fly, quota, body⟩) (bRead ⟨n, f, dmin, dmax, rho, slew, round, window, attend, seen, hist, fly, quota, body⟩) (bAgree ⟨n, f, dmin, dmax, rho, slew, round, window, attend, seen, hist, fly, quota, body⟩) (bStart ⟨n, f, dmin, dmax, rho, slew, round, window, attend, seen, hist, fly, quota, body⟩) (bEps ⟨n, f, dmin, dmax, rho, slew, round, window, attend, seen, hist, fly, quota, body⟩) (bMost ⟨n, f, dmin, dmax, rho, slew, round, window, attend, seen, hist, fly, quota, body⟩) (bCold ⟨n, f, dmin, dmax, rho, slew, round, window, attend, seen, hist, fly, quota, body⟩) (bRough ⟨n, f, dmin, dmax, rho, slew, round, window, attend, seen, hist, fly, quota, body⟩) (bDelta ⟨n, f, dmin, dmax, rho, slew, round, window, attend, seen, hist, fly, quota, body⟩) (bDown ⟨n, f, dmin, dmax, rho, slew, round, window, attend, seen, hist, fly, quota, body⟩) (bJoin ⟨n, f, dmin, dmax, rho, slew, round, window, attend, seen, hist, fly, quota, body⟩) i (perEvery attend) (perDelta (bDelta ⟨n, f, dmin, dmax, rho, slew, round, window, attend, seen, hist, fly, quota, body⟩)) nr sr) 34 [.int .i64 (clampI hard 0 1152921504606846976), .pointer (some ⟨ck, 0, none⟩), .pointer none, .bool false, .int .i64 (-1), .int .i64 0]) 40 [.pointer (some ⟨rel, 0, none⟩), .pointer (some ⟨hst, 0, none⟩), .pointer (some ⟨quo, 0, none⟩), .pointer (some ⟨rol, 0, none⟩)]) 44 [.pointer (some ⟨jn, 0, none⟩), .pointer (some ⟨vws, 0, none⟩), .int .u64 0, .int .i64 0, .int .i64 0, .int .i64 0]) 50 (.pointer (some ⟨lg, 0, none⟩) :: (ledZ ++ [.bool false, .int .i64 0, .pointer (some ⟨pie, 0, none⟩)])) = ndL ⟨sr, N, sw, ck, tmp, tab, sen, rel, htm, htb, hq, hst, quo, rom, rol, jn, vws, lg, pim, pie⟩ ⟨n, f, dmin, dmax, rho, slew, round, window, attend, seen, hist, fly, quota, body⟩ (nv0 i hard nr) := by kernel_rfl
set_option maxHeartbeats 3200000 in
theorem node_done (n f dmin dmax rho slew round window attend seen hist fly quota body b0 b1 b2 b3 b4 b5 b6 b7 b8 b9 b10 b11 b12 b13 : Int) {i nr : Nat} {pe pd nrI hd hard : Int} {lo N sr sw ck tmp tab sen rel htm htb hq hst quo rom rol jn vws lg pim pie : Nat} {w11 w12 w13 w14 w15 w16 w17 w18 w19 w20 w21 w22 : World}
    (hb : b0 = bHops ⟨n, f, dmin, dmax, rho, slew, round, window, attend, seen, hist, fly, quota, body⟩ ∧ b1 = bFast ⟨n, f, dmin, dmax, rho, slew, round, window, attend, seen, hist, fly, quota, body⟩ ∧ b2 = bSlow ⟨n, f, dmin, dmax, rho, slew, round, window, attend, seen, hist, fly, quota, body⟩ ∧ b3 = bLink ⟨n, f, dmin, dmax, rho, slew, round, window, attend, seen, hist, fly, quota, body⟩ ∧ b4 = bRead ⟨n, f, dmin, dmax, rho, slew, round, window, attend, seen, hist, fly, quota, body⟩ ∧ b5 = bAgree ⟨n, f, dmin, dmax, rho, slew, round, window, attend, seen, hist, fly, quota, body⟩ ∧ b6 = bStart ⟨n, f, dmin, dmax, rho, slew, round, window, attend, seen, hist, fly, quota, body⟩ ∧ b7 = bEps ⟨n, f, dmin, dmax, rho, slew, round, window, attend, seen, hist, fly, quota, body⟩ ∧ b8 = bMost ⟨n, f, dmin, dmax, rho, slew, round, window, attend, seen, hist, fly, quota, body⟩ ∧ b9 = bCold ⟨n, f, dmin, dmax, rho, slew, round, window, attend, seen, hist, fly, quota, body⟩ ∧ b10 = bRough ⟨n, f, dmin, dmax, rho, slew, round, window, attend, seen, hist, fly, quota, body⟩ ∧ b11 = bDelta ⟨n, f, dmin, dmax, rho, slew, round, window, attend, seen, hist, fly, quota, body⟩ ∧ b12 = bDown ⟨n, f, dmin, dmax, rho, slew, round, window, attend, seen, hist, fly, quota, body⟩ ∧ b13 = bJoin ⟨n, f, dmin, dmax, rho, slew, round, window, attend, seen, hist, fly, quota, body⟩)
    (p1 : perEvery attend = pe) (p2 : perDelta b11 = pd) (p3 : (nr : Int) = nrI) (p4 : clampI hard 0 1152921504606846976 = hd)
    (z22 : BoxF w22 N (putL (putL (putL (putL (ndZ n f dmin dmax rho slew round window attend seen hist fly quota body b0 b1 b2 b3 b4 b5 b6 b7 b8 b9 b10 b11 b12 b13 i pe pd nrI sr) 34 [.int .i64 hd, .pointer (some ⟨ck, 0, none⟩), .pointer none, .bool false, .int .i64 (-1), .int .i64 0]) 40 [.pointer (some ⟨rel, 0, none⟩), .pointer (some ⟨hst, 0, none⟩), .pointer (some ⟨quo, 0, none⟩), .pointer (some ⟨rol, 0, none⟩)]) 44 [.pointer (some ⟨jn, 0, none⟩), .pointer (some ⟨vws, 0, none⟩), .int .u64 0, .int .i64 0, .int .i64 0, .int .i64 0]) 50 (.pointer (some ⟨lg, 0, none⟩) :: (ledZ ++ [.bool false, .int .i64 0, .pointer (some ⟨pie, 0, none⟩)]))))
    (f11 : FrB N w11 w22) (f12 : FrB N w12 w22) (f13 : FrB N w13 w22) (f14 : FrB N w14 w22) (f15 : FrB N w15 w22) (f17 : FrB N w17 w22) (f18 : FrB N w18 w22) (f20 : FrB N w20 w22) (f21 : FrB N w21 w22)
    (s1 : lo ≤ sr) (s2 : sr < N)
    (HA : BoxF w11 sr [.int .u64 0] ∧ BoxF w11 ck [.pointer (some ⟨sw, 0, none⟩), .int .i64 0, .int .i64 0, .int .i64 slew] ∧ BoxF w11 sw [.int .i64 0, .int .i64 (clampI slew 1 256)] ∧ sw < ck ∧ N < sw ∧ ck < w11.heap.size)
    (HR : BoxF w12 rel (.pointer (some ⟨sen, 0, none⟩) :: .int .i64 i :: .int .i64 n :: Bn.cells ⟨b0, b1, b2, b3, b4, b5, b6, b7, b8, b9, b10, b11, b12, b13⟩) ∧ BoxF w12 sen [.pointer (some ⟨tab, 0, none⟩)] ∧ BoxF w12 tab [.slice none 0 0, .map (some tmp), .int .i64 (min (max seen 0) 65536)] ∧ NoMap w12 tmp ∧ w11.heap.size ≤ tmp ∧ tmp < tab ∧ tab < sen ∧ sen < rel ∧ rel < w12.heap.size)
    (HH : BoxF w13 hst [.pointer (some ⟨htb, 0, none⟩), .map (some hq), .int .i64 (clampI b11 0 1152921504606846976), .int .i64 0, .int .i64 0, .int .u32 0, .bool false] ∧ BoxF w13 htb [.slice none 0 0, .map (some htm), .int .i64 (min (max hist 0) 65536)] ∧ NoMap w13 htm ∧ NoMap w13 hq ∧ w12.heap.size ≤ htm ∧ htm < htb ∧ htb < hq ∧ hq < hst ∧ hst < w13.heap.size)
    (HQ : BoxF w14 quo [.int .i64 (min (max quota 0) 65536), .int .i64 (min (max body 0) 1024), .int .i64 0] ∧ w13.heap.size ≤ quo ∧ quo < w14.heap.size)
    (HO : BoxF w15 rol [.map (some rom), .int .i64 (min (max seen 0) 65536)] ∧ NoMap w15 rom ∧ w14.heap.size ≤ rom ∧ rom < rol ∧ rol < w15.heap.size)
    (HJ : BoxF w17 jn [.int .i64 0, .int .i64 (-1), .int .i64 0] ∧ w16.heap.size ≤ jn ∧ jn < w17.heap.size)
    (HV : BoxF w18 vws [.slice none 0 0] ∧ w17.heap.size ≤ vws ∧ vws < w18.heap.size)
    (HL : BoxF w20 lg [.slice none 0 0] ∧ w19.heap.size ≤ lg ∧ lg < w20.heap.size)
    (HI : BoxF w21 pie [.int .i64 i, .int .i64 0, .int .i64 0, .map (some pim)] ∧ NoMap w21 pim ∧ w20.heap.size ≤ pim ∧ pim < pie ∧ pie < w21.heap.size)
    (t1 : w15.heap.size ≤ w16.heap.size) (t2 : w18.heap.size ≤ w19.heap.size) :
    NodeAt w22 lo ⟨sr, N, sw, ck, tmp, tab, sen, rel, htm, htb, hq, hst, quo, rom, rol, jn, vws, lg, pim, pie⟩ ⟨n, f, dmin, dmax, rho, slew, round, window, attend, seen, hist, fly, quota, body⟩ (nv0 i hard nr) ns0 := by
  obtain ⟨rfl, rfl, rfl, rfl, rfl, rfl, rfl, rfl, rfl, rfl, rfl, rfl, rfl, rfl⟩ := hb
  subst p1 p2 p3 p4
  obtain ⟨a5, a6, a7, a8, a9, a10⟩ := HA
  obtain ⟨r1, r2, r3, r4, r5, r6, r7, r8, r9⟩ := HR
  obtain ⟨m1, m2, m3, m4, m5, m6, m7, m8, m9⟩ := HH
  obtain ⟨q1, q2, q3⟩ := HQ
  obtain ⟨o1, o2, o3, o4, o5⟩ := HO
  obtain ⟨j1, j2, j3⟩ := HJ
  obtain ⟨x1, x2, x3⟩ := HV
  obtain ⟨l1, l2, l3⟩ := HL
  obtain ⟨i1, i2, i3, i4, i5⟩ := HI
  have t21 := f21.size
  have zz := NdBox.of z22 (ndL_eq n f dmin dmax rho slew round window attend seen hist fly quota body i nr hard sr N sw ck tmp tab sen rel htm htb hq hst quo rom rol jn vws lg pim pie) rfl rfl
  clear z22
  have hN11 : N < w11.heap.size := by omega
  have h12 : w11.heap.size ≤ w12.heap.size := by omega
  have h13 : w12.heap.size ≤ w13.heap.size := by omega
  have h14 : w13.heap.size ≤ w14.heap.size := by omega
  have h15 : w14.heap.size ≤ w15.heap.size := by omega
  have h17 : w16.heap.size ≤ w17.heap.size := by omega
  have h18 : w17.heap.size ≤ w18.heap.size := by omega
  have h20 : w19.heap.size ≤ w20.heap.size := by omega
  have h21 : w20.heap.size ≤ w21.heap.size := by omega
  exact ⟨zz, a5.same (f11.block _ (by omega) (by omega)), a7.same (f11.block _ (by omega) (by omega)), a6.same (f11.block _ (by omega) (by omega)), r4.same (f12.block _ (by omega) (by omega)), r3.same (f12.block _ (by omega) (by omega)), r2.same (f12.block _ (by omega) (by omega)), r1.same (f12.block _ (by omega) (by omega)), m3.same (f13.block _ (by omega) (by omega)), m2.same (f13.block _ (by omega) (by omega)), m4.same (f13.block _ (by omega) (by omega)), m1.same (f13.block _ (by omega) (by omega)), q1.same (f14.block _ (by omega) (by omega)), o2.same (f15.block _ (by omega) (by omega)), o1.same (f15.block _ (by omega) (by omega)), j1.same (f17.block _ (by omega) (by omega)), x1.same (f18.block _ (by omega) (by omega)), l1.same (f20.block _ (by omega) (by omega)), i2.same (f21.block _ (by omega) (by omega)), i1.same (f21.block _ (by omega) (by omega)), ⟨by (try dsimp only); omega, by (try dsimp only); omega, by (try dsimp only); omega, by (try dsimp only); omega, by (try dsimp only); omega, by (try dsimp only); omega, by (try dsimp only); omega, by (try dsimp only); omega, by (try dsimp only); omega, by (try dsimp only); omega, by (try dsimp only); omega, by (try dsimp only); omega, by (try dsimp only); omega, by (try dsimp only); omega, by (try dsimp only); omega, by (try dsimp only); omega, by (try dsimp only); omega, by (try dsimp only); omega, by (try dsimp only); omega, by (try dsimp only); omega, by (try dsimp only); omega⟩⟩
set_option maxHeartbeats 25600000 in
theorem nodeNewE (c : Cn) (A : Option Addr) (l k : Nat) (L : List Pr) (hl : L.length = l) (hfit : ∀ x ∈ L, PrF x) (hm : l ≤ 9223372036854775807) (id hard : Int) (w : World) (hA : LinksAt w A L) (h1 : gErr c.n L = 0) (h2 : enoughB c = true) (h3 : ¬ c.f < 0) (h4 : 0 ≤ id) (h5 : ¬ c.n ≤ id) :
    Calls Tryz.prog 20 #[.agg (c.cells A l k).toArray, .int .i64 id, .int .i64 hard] w (NdPost c L id hard w) := by
  obtain ⟨n, f, dmin, dmax, rho, slew, round, window, attend, seen, hist, fly, quota, body⟩ := c
  replace h1 : gErr n L = 0 := h1
  replace h3 : ¬ f < 0 := h3
  replace h5 : ¬ n ≤ id := h5
  obtain ⟨i, rfl⟩ : ∃ i : Nat, id = (i : Int) := ⟨id.toNat, by omega⟩
  have HE : Hid (newErr ⟨n, f, dmin, dmax, rho, slew, round, window, attend, seen, hist, fly, quota, body⟩ L i = 0) := by unfold Hid newErr; rw [if_neg (fun h => h.elim (fun h => h h1) (fun h => h.elim (fun h => by rw [h2] at h; cases h) h3)), if_neg (fun h => h.elim (by omega) h5)]
  have hgd : goodC ⟨n, f, dmin, dmax, rho, slew, round, window, attend, seen, hist, fly, quota, body⟩ = true := by
    unfold enoughB at h2
    simp only [Bool.and_eq_true] at h2
    exact h2.1
  have HP : Hid (∀ w' b, Below w.heap.size w w' → NodeAt w' w.heap.size b ⟨n, f, dmin, dmax, rho, slew, round, window, attend, seen, hist, fly, quota, body⟩ (nv0 i hard ((nearL n.toNat L).getD i 0)) ns0 → NdPost ⟨n, f, dmin, dmax, rho, slew, round, window, attend, seen, hist, fly, quota, body⟩ L i hard w (.returned (.tuple #[.pointer (some ⟨b.N, 0, none⟩), .int .i64 0])) w') := fun w' b h h' => ⟨h, fun _ => ⟨b, rfl, h'⟩, fun h0 => absurd HE.out h0⟩
  have hil : i < (nearL n.toNat L).length := by rw [nearL_len]; omega
  have HX := Lib.hid (And.intro h1 (And.intro h2 (And.intro hgd hil)))
  have h4 : ¬ ((i : Int) < 0) := by omega
  clear h1 h2 hgd hil
  have CO := Lib.hid (fun W => ofAny ⟨n, f, dmin, dmax, rho, slew, round, window, attend, seen, hist, fly, quota, body⟩ A l k W)
  have CE := Lib.hid (fun W => boundEnough ⟨n, f, dmin, dmax, rho, slew, round, window, attend, seen, hist, fly, quota, body⟩ A l k W)
  have CG := fun (W : World) (hW : Below w.heap.size w W) => grNew n A k L hl hfit hm W (hA.below hW)
  unfold NewPost at CG
  have CG := Lib.hid CG
  have k0 := boxF_made w [.int .i64 n, .slice A l k, .int .i64 f, .int .i64 dmin, .int .i64 dmax, .int .i64 rho, .int .i64 slew, .int .i64 round, .int .i64 window, .int .i64 attend, .int .i64 seen, .int .i64 hist, .int .i64 fly, .int .i64 quota, .int .i64 body] 32
  have k1 := (Below.refl w.heap.size w).alloc (Nat.le_refl _) (.cells #[.int .i64 n, .slice A l k, .int .i64 f, .int .i64 dmin, .int .i64 dmax, .int .i64 rho, .int .i64 slew, .int .i64 round, .int .i64 window, .int .i64 attend, .int .i64 seen, .int .i64 hist, .int .i64 fly, .int .i64 quota, .int .i64 body] 32)
  obtain ⟨w1, hw1⟩ : ∃ w1, w.alloc (.cells #[.int .i64 n, .slice A l k, .int .i64 f, .int .i64 dmin, .int .i64 dmax, .int .i64 rho, .int .i64 slew, .int .i64 round, .int .i64 window, .int .i64 attend, .int .i64 seen, .int .i64 hist, .int .i64 fly, .int .i64 quota, .int .i64 body] 32) = w1 := ⟨_, rfl⟩
  have hs1 : w1.heap.size = w.heap.size + 1 := by rw [← hw1]; simp
  rw [hw1] at k0 k1
  have kc0 := k0.1 0 _ rfl
  have kc1 := k0.1 1 _ rfl
  have kc2 := k0.1 2 _ rfl
  have kc3 := k0.1 3 _ rfl
  have kc4 := k0.1 4 _ rfl
  have kc5 := k0.1 5 _ rfl
  have kc6 := k0.1 6 _ rfl
  have kc7 := k0.1 7 _ rfl
  have kc8 := k0.1 8 _ rfl
  have kc9 := k0.1 9 _ rfl
  have kc10 := k0.1 10 _ rfl
  have kc11 := k0.1 11 _ rfl
  have kc12 := k0.1 12 _ rfl
  have kc13 := k0.1 13 _ rfl
  have kc14 := k0.1 14 _ rfl
  have H1 := Lib.hid (And.intro k0 (And.intro k1 hs1))
  clear k0 k1 hs1 hA hfit hm hl
  go_enter Tryz.func20, Tryz.ntmps20
  go_wp2_with fail
  refine (CO.out _).mono ?_
  rintro e w2 ⟨⟨⟨b0, b1, b2, b3, b4, b5, b6, b7, b8, b9, b10, b11, b12, b13⟩, ex, rfl, hbn⟩, hb2⟩
  have HBN := Lib.hid hbn
  have q3 := (Below.refl w2.heap.size w2).alloc (Nat.le_refl _) (.cells #[.int .i64 b0, .int .i64 b1, .int .i64 b2, .int .i64 b3, .int .i64 b4, .int .i64 b5, .int .i64 b6, .int .i64 b7, .int .i64 b8, .int .i64 b9, .int .i64 b10, .int .i64 b11, .int .i64 b12, .int .i64 b13] 101)
  have p3 := boxF_made w2 [.int .i64 b0, .int .i64 b1, .int .i64 b2, .int .i64 b3, .int .i64 b4, .int .i64 b5, .int .i64 b6, .int .i64 b7, .int .i64 b8, .int .i64 b9, .int .i64 b10, .int .i64 b11, .int .i64 b12, .int .i64 b13] 101
  have c3 := (H1.out.1.keep hb2).keep q3
  have hs2 := hb2.size
  obtain ⟨w3, hw3⟩ : ∃ w3, w2.alloc (.cells #[.int .i64 b0, .int .i64 b1, .int .i64 b2, .int .i64 b3, .int .i64 b4, .int .i64 b5, .int .i64 b6, .int .i64 b7, .int .i64 b8, .int .i64 b9, .int .i64 b10, .int .i64 b11, .int .i64 b12, .int .i64 b13] 101) = w3 := ⟨_, rfl⟩
  have hs3 : w3.heap.size = w2.heap.size + 1 := by rw [← hw3]; simp
  rw [hw3] at q3 p3 c3
  have hB2 := H1.out.2.1.trans (hb2.mono H1.out.2.1.size)
  have hB3 := hB2.trans (q3.mono hB2.size)
  have kd0 := c3.1 0 _ rfl
  have kd1 := c3.1 1 _ rfl
  have kd2 := c3.1 2 _ rfl
  have kd3 := c3.1 3 _ rfl
  have kd4 := c3.1 4 _ rfl
  have kd5 := c3.1 5 _ rfl
  have kd6 := c3.1 6 _ rfl
  have kd7 := c3.1 7 _ rfl
  have kd8 := c3.1 8 _ rfl
  have kd9 := c3.1 9 _ rfl
  have kd10 := c3.1 10 _ rfl
  have kd11 := c3.1 11 _ rfl
  have kd12 := c3.1 12 _ rfl
  have kd13 := c3.1 13 _ rfl
  have kd14 := c3.1 14 _ rfl
  have C4 := Lib.hid (CG.out w3 hB3)
  have H3 := Lib.hid (And.intro hB3 (And.intro c3 (And.intro p3 (And.intro hs3 hs2))))
  have hsw : w.heap.size < w2.heap.size := by have := H1.out.2.2; omega
  clear hb2 q3 p3 c3 hs3 hB2 hB3 hs2 hbn kc0 kc1 kc2 kc3 kc4 kc5 kc6 kc7 kc8 kc9 kc10 kc11 kc12 kc13 kc14
  simp only [Bn.cells]
  go_wp2_with fail
  refine C4.out.mono ?_
  rintro e w4 ⟨hb4, hok, hbad⟩
  obtain ⟨G, R, rfl, hgr, hG, hR⟩ := hok HX.out.1
  have c4 := H3.out.2.1.keep hb4
  have p4 := H3.out.2.2.1.keep hb4
  have hB4 := H3.out.1.trans (hb4.mono H3.out.1.size)
  have ke0 := c4.1 0 _ rfl
  have ke1 := c4.1 1 _ rfl
  have ke2 := c4.1 2 _ rfl
  have ke3 := c4.1 3 _ rfl
  have ke4 := c4.1 4 _ rfl
  have ke5 := c4.1 5 _ rfl
  have ke6 := c4.1 6 _ rfl
  have ke7 := c4.1 7 _ rfl
  have ke8 := c4.1 8 _ rfl
  have ke9 := c4.1 9 _ rfl
  have ke10 := c4.1 10 _ rfl
  have ke11 := c4.1 11 _ rfl
  have ke12 := c4.1 12 _ rfl
  have ke13 := c4.1 13 _ rfl
  have ke14 := c4.1 14 _ rfl
  have ye0 := p4.1 0 _ rfl
  have ye1 := p4.1 1 _ rfl
  have ye2 := p4.1 2 _ rfl
  have ye3 := p4.1 3 _ rfl
  have ye4 := p4.1 4 _ rfl
  have ye5 := p4.1 5 _ rfl
  have ye6 := p4.1 6 _ rfl
  have ye7 := p4.1 7 _ rfl
  have ye8 := p4.1 8 _ rfl
  have ye9 := p4.1 9 _ rfl
  have ye10 := p4.1 10 _ rfl
  have ye11 := p4.1 11 _ rfl
  have ye12 := p4.1 12 _ rfl
  have ye13 := p4.1 13 _ rfl
  have H4 := Lib.hid (And.intro hB4 (And.intro c4 p4))
  clear hb4 c4 p4 hB4 hbad kd0 kd1 kd2 kd3 kd4 kd5 kd6 kd7 kd8 kd9 kd10 kd11 kd12 kd13 kd14
  clear hok
  go_wp2_with fail
  refine (CE.out _).mono ?_
  rintro e w5 ⟨rfl, hb5⟩
  have c5 := H4.out.2.1.keep hb5
  have kf0 := c5.1 0 _ rfl
  have kf1 := c5.1 1 _ rfl
  have kf2 := c5.1 2 _ rfl
  have kf3 := c5.1 3 _ rfl
  have kf4 := c5.1 4 _ rfl
  have kf5 := c5.1 5 _ rfl
  have kf6 := c5.1 6 _ rfl
  have kf7 := c5.1 7 _ rfl
  have kf8 := c5.1 8 _ rfl
  have kf9 := c5.1 9 _ rfl
  have kf10 := c5.1 10 _ rfl
  have kf11 := c5.1 11 _ rfl
  have kf12 := c5.1 12 _ rfl
  have kf13 := c5.1 13 _ rfl
  have kf14 := c5.1 14 _ rfl
  have fz1 := c5.2 1 (by simp)
  have gr5 := hgr.keep hb5
  have p5 := H4.out.2.2.keep hb5
  have hB5 := H4.out.1.trans (hb5.mono H4.out.1.size)
  have hG4 : w.heap.size < G := by have := H3.out.1.size; have := H3.out.2.2.2; omega
  have hR4 : w.heap.size < R := by have := H3.out.1.size; have := H3.out.2.2.2; omega
  have c6 := c5.put 1 (by simp) (.slice none 0 0)
  simp only [List.set_cons_succ, List.set_cons_zero] at c6
  have p6 := p5.other (a := ⟨w.heap.size, 1, none⟩) (by simp; omega) (.slice none 0 0)
  have gr6 : GrAt (w5.setCell ⟨w.heap.size, 1, none⟩ (.slice none 0 0)) G R (nearL n.toNat L) := gr5.kept (Below.heap_setCell _ _ _ _ (Nat.ne_of_gt hG4)) (Below.heap_setCell _ _ _ _ (Nat.ne_of_gt hR4))
  have hB6 : Below w.heap.size w (w5.setCell ⟨w.heap.size, 1, none⟩ (.slice none 0 0)) := hB5.setCell (by simp) _
  obtain ⟨w6, hw6⟩ : ∃ w6, w5.setCell ⟨w.heap.size, 1, none⟩ (.slice none 0 0) = w6 := ⟨_, rfl⟩
  rw [hw6] at c6 p6 gr6 hB6
  have H6 := Lib.hid (And.intro hB6 (And.intro c6 (And.intro p6 gr6)))
  have hlt2 : w2.heap.size < w6.heap.size := p6.lt (by simp)
  have HS6 : Hid (∀ W, Below w6.heap.size w6 W → BoxF W w.heap.size [.int .i64 n, .slice none 0 0, .int .i64 f, .int .i64 dmin, .int .i64 dmax, .int .i64 rho, .int .i64 slew, .int .i64 round, .int .i64 window, .int .i64 attend, .int .i64 seen, .int .i64 hist, .int .i64 fly, .int .i64 quota, .int .i64 body] ∧ BoxF W w2.heap.size [.int .i64 b0, .int .i64 b1, .int .i64 b2, .int .i64 b3, .int .i64 b4, .int .i64 b5, .int .i64 b6, .int .i64 b7, .int .i64 b8, .int .i64 b9, .int .i64 b10, .int .i64 b11, .int .i64 b12, .int .i64 b13]) := fun W hW => ⟨H6.out.2.1.keep hW, H6.out.2.2.1.keep hW⟩
  have HD6 : Hid (Below w6.heap.size w6 w6.drew) := (Below.refl _ _).drew
  rw [HX.out.2.1]
  have CN := Lib.hid (grNear i HX.out.2.2.2 (H6.out.2.2.2.keep HD6.out))
  have CP := fun (W : World) => perNew attend b11 W
  obtain ⟨pe, hpe⟩ : ∃ pe, perEvery attend = pe := ⟨_, rfl⟩
  obtain ⟨pd, hpd⟩ : ∃ pd, perDelta b11 = pd := ⟨_, rfl⟩
  rw [hpe, hpd] at CP
  have HPE := Lib.hid (And.intro hpe hpd)
  obtain ⟨nr, hnr⟩ : ∃ nr, (((nearL n.toNat L).getD i 0 : Nat) : Int) = nr := ⟨_, rfl⟩
  rw [hnr] at CN
  have HNR := Lib.hid hnr
  clear hpe hpd hnr
  have CP := Lib.hid CP
  clear hb5 c5 gr5 p5 hB5 c6 p6 gr6 hB6 hgr hG hR hG4 hR4 hlt2 ke0 ke1 ke2 ke3 ke4 ke5 ke6 ke7 ke8 ke9 ke10 ke11 ke12 ke13 ke14 ye0 ye1 ye2 ye3 ye4 ye5 ye6 ye7 ye8 ye9 ye10 ye11 ye12 ye13
  go_wp2_with fail
  refine wp_region_perm [] [0, 1, 2, 3, 4, 6, 7, 8, 9] [5, 10, 11, 12, 13, 14] 15 16 (fun W => Below w6.heap.size w6 W) (by kernel_rfl) (by kernel_rfl) (by intro c a t v w h; exact h) HD6.out ?_
  simp only [pickL, List.drop_succ_cons, List.drop_zero, List.head?_cons, Option.toList_some, List.cons_append, List.nil_append]
  refine wpHead_nil ?_
  iterate 9 (refine wpHead_step _ (by rfl) (by intro W hW; obtain ⟨zc, zb⟩ := HS6.out W hW; have z0 := zc.1 0 _ rfl; have z1 := zc.1 1 _ rfl; have z2 := zc.1 2 _ rfl; have z3 := zc.1 3 _ rfl; have z4 := zc.1 4 _ rfl; have z5 := zc.1 5 _ rfl; have z6 := zc.1 6 _ rfl; have z7 := zc.1 7 _ rfl; have z8 := zc.1 8 _ rfl; have z9 := zc.1 9 _ rfl; have z10 := zc.1 10 _ rfl; have z11 := zc.1 11 _ rfl; have z12 := zc.1 12 _ rfl; have z13 := zc.1 13 _ rfl; have z14 := zc.1 14 _ rfl; have y0 := zb.1 0 _ rfl; have y1 := zb.1 1 _ rfl; have y2 := zb.1 2 _ rfl; have y3 := zb.1 3 _ rfl; have y4 := zb.1 4 _ rfl; have y5 := zb.1 5 _ rfl; have y6 := zb.1 6 _ rfl; have y7 := zb.1 7 _ rfl; have y8 := zb.1 8 _ rfl; have y9 := zb.1 9 _ rfl; have y10 := zb.1 10 _ rfl; have y11 := zb.1 11 _ rfl; have y12 := zb.1 12 _ rfl; have y13 := zb.1 13 _ rfl; clear zc zb hW; go_simp; with_reducible rfl) ?_; simp only [Act.put, List.setIfInBounds_toArray, List.set_cons_zero, List.set_cons_succ])
  refine wpHead_nil ?_
  refine ⟨by rfl, ?_⟩
  go_simp
  go_at_call 59
  refine CN.out.mono ?_
  rintro e w7 ⟨rfl, rfl⟩
  refine ⟨HD6.out, by rfl, ?_⟩
  go_simp
  go_at_call 60
  refine (CP.out _).mono ?_
  rintro e w7 ⟨rfl, hb7⟩
  have HB7 := Lib.hid (HD6.out.trans (hb7.mono HD6.out.size))
  clear hb7
  refine ⟨HB7.out, by rfl, ?_⟩
  go_simp
  go_at_call 61
  refine (serialNew _).mono ?_
  rintro e w8 ⟨sr, rfl, hsr, hsrl, hb8⟩
  have HB8 := Lib.hid (HB7.out.trans (hb8.mono HB7.out.size))
  have z9 := boxF_made w8 (ndZ n f dmin dmax rho slew round window attend seen hist fly quota body b0 b1 b2 b3 b4 b5 b6 b7 b8 b9 b10 b11 b12 b13 i pe pd nr sr) 157
  have y9 := (Below.refl w8.heap.size w8).alloc (Nat.le_refl _) (.cells (ndZ n f dmin dmax rho slew round window attend seen hist fly quota body b0 b1 b2 b3 b4 b5 b6 b7 b8 b9 b10 b11 b12 b13 i pe pd nr sr).toArray 157)
  rw [← ndZ_eq] at z9 y9
  have hs8 := hb8.size
  have hsr9 := hsr.keep y9
  obtain ⟨w9, hw9⟩ : ∃ w9, w8.alloc (.cells (((((((((((((((((((((((((((((((((((Tryz.zeroCells157.setIfInBounds 0 (.int .i64 n)).setIfInBounds 1 (.slice none 0 0)).setIfInBounds 2 (.int .i64 f)).setIfInBounds 3 (.int .i64 dmin)).setIfInBounds 4 (.int .i64 dmax)).setIfInBounds 5 (.int .i64 rho)).setIfInBounds 6 (.int .i64 slew)).setIfInBounds 7 (.int .i64 round)).setIfInBounds 8 (.int .i64 window)).setIfInBounds 9 (.int .i64 attend)).setIfInBounds 10 (.int .i64 seen)).setIfInBounds 11 (.int .i64 hist)).setIfInBounds 12 (.int .i64 fly)).setIfInBounds 13 (.int .i64 quota)).setIfInBounds 14 (.int .i64 body)).setIfInBounds 15 (.int .i64 b0)).setIfInBounds 16 (.int .i64 b1)).setIfInBounds 17 (.int .i64 b2)).setIfInBounds 18 (.int .i64 b3)).setIfInBounds 19 (.int .i64 b4)).setIfInBounds 20 (.int .i64 b5)).setIfInBounds 21 (.int .i64 b6)).setIfInBounds 22 (.int .i64 b7)).setIfInBounds 23 (.int .i64 b8)).setIfInBounds 24 (.int .i64 b9)).setIfInBounds 25 (.int .i64 b10)).setIfInBounds 26 (.int .i64 b11)).setIfInBounds 27 (.int .i64 b12)).setIfInBounds 28 (.int .i64 b13)).setIfInBounds 29 (.int .i64 i)).setIfInBounds 30 (.int .u64 nr)).setIfInBounds 31 (.int .i64 pe)).setIfInBounds 32 (.int .i64 pd)).setIfInBounds 33 (.pointer (some ⟨sr, 0, none⟩)))) 157) = w9 := ⟨_, rfl⟩
  have hs9 : w9.heap.size = w8.heap.size + 1 := by rw [← hw9]; simp
  rw [hw9] at z9 y9 hsr9
  have HB9 := Lib.hid (HB8.out.trans (y9.mono HB8.out.size))
  have hsrlt : sr < w8.heap.size := hsr.lt (by simp)
  have hsrl2 : w.heap.size ≤ sr := by have h1 := HB7.out.size; have h2 := H6.out.1.size; omega
  have h68 := HB8.out.size
  have hlt0 : w.heap.size < w8.heap.size := by have h2 := H6.out.2.1.lt (by simp); omega
  have hlt1 : w2.heap.size < w8.heap.size := by have h2 := H6.out.2.2.1.lt (by simp); omega
  have HLT := Lib.hid (And.intro hlt0 hlt1)
  have H9 := Lib.hid (And.intro (H6.out.1.trans (HB9.out.mono H6.out.1.size)) (And.intro (H6.out.2.1.keep HB9.out) (And.intro (H6.out.2.2.1.keep HB9.out) (And.intro z9 (And.intro hsr9 (And.intro hsrl2 (And.intro hsrlt hs9)))))))
  clear z9 y9 hsr hsrl hb8 hs8 hsr9 hs9 hsrlt hsrl2 h68 hlt0 hlt1
  refine ⟨HB8.out, by rfl, ?_⟩
  go_simp
  refine ⟨HB8.out, by rfl, ?_⟩
  go_simp
  refine ⟨HB9.out, by rfl, ?_⟩
  go_simp
  refine ⟨HB9.out, ?_⟩
  refine wpMid_nil ?_
  have CC := fun (W : World) => spanClamp hard 0 1152921504606846976 W
  obtain ⟨hd, hhd⟩ : ∃ hd, clampI hard 0 1152921504606846976 = hd := ⟨_, rfl⟩
  rw [hhd] at CC
  have HHD := Lib.hid hhd
  have CC := Lib.hid CC
  clear hhd
  have HS9 : Hid (∀ W, Below w8.heap.size w9 W → BoxF W w.heap.size [.int .i64 n, .slice none 0 0, .int .i64 f, .int .i64 dmin, .int .i64 dmax, .int .i64 rho, .int .i64 slew, .int .i64 round, .int .i64 window, .int .i64 attend, .int .i64 seen, .int .i64 hist, .int .i64 fly, .int .i64 quota, .int .i64 body] ∧ BoxF W w2.heap.size [.int .i64 b0, .int .i64 b1, .int .i64 b2, .int .i64 b3, .int .i64 b4, .int .i64 b5, .int .i64 b6, .int .i64 b7, .int .i64 b8, .int .i64 b9, .int .i64 b10, .int .i64 b11, .int .i64 b12, .int .i64 b13]) := fun W hW => ⟨H9.out.2.1.same (hW.block _ HLT.out.1), H9.out.2.2.1.same (hW.block _ HLT.out.2)⟩
  have HD9 : Hid (Below w8.heap.size w9 w9.drew) := (Below.refl _ _).drew
  go_wp2_with fail
  refine wp_region_perm [] [0, 1, 3, 4] [2, 5, 6, 7, 8, 9] 10 14 (fun W => Below w8.heap.size w9 W) (by kernel_rfl) (by kernel_rfl) (by intro c a t v w h; exact h) HD9.out ?_
  simp only [pickL, List.drop_succ_cons, List.drop_zero, List.head?_cons, Option.toList_some, List.cons_append, List.nil_append]
  refine wpHead_nil ?_
  iterate 4 (refine wpHead_step _ (by rfl) (by intro W hW; obtain ⟨zc, zb⟩ := HS9.out W hW; have z0 := zc.1 0 _ rfl; have z1 := zc.1 1 _ rfl; have z2 := zc.1 2 _ rfl; have z3 := zc.1 3 _ rfl; have z4 := zc.1 4 _ rfl; have z5 := zc.1 5 _ rfl; have z6 := zc.1 6 _ rfl; have z7 := zc.1 7 _ rfl; have z8 := zc.1 8 _ rfl; have z9 := zc.1 9 _ rfl; have z10 := zc.1 10 _ rfl; have z11 := zc.1 11 _ rfl; have z12 := zc.1 12 _ rfl; have z13 := zc.1 13 _ rfl; have z14 := zc.1 14 _ rfl; have y0 := zb.1 0 _ rfl; have y1 := zb.1 1 _ rfl; have y2 := zb.1 2 _ rfl; have y3 := zb.1 3 _ rfl; have y4 := zb.1 4 _ rfl; have y5 := zb.1 5 _ rfl; have y6 := zb.1 6 _ rfl; have y7 := zb.1 7 _ rfl; have y8 := zb.1 8 _ rfl; have y9 := zb.1 9 _ rfl; have y10 := zb.1 10 _ rfl; have y11 := zb.1 11 _ rfl; have y12 := zb.1 12 _ rfl; have y13 := zb.1 13 _ rfl; clear zc zb hW; go_simp; with_reducible rfl) ?_; simp only [Act.put, List.setIfInBounds_toArray, List.set_cons_zero, List.set_cons_succ])
  refine wpHead_nil ?_
  refine ⟨by rfl, ?_⟩
  go_simp
  go_at_call 62
  refine (CC.out _).mono ?_
  rintro e w10 ⟨rfl, rfl⟩
  refine ⟨HD9.out, by rfl, ?_⟩
  go_simp
  go_at_call 63
  refine (clockNew slew _).mono ?_
  rintro e w10 ⟨ck, sw, rfl, hck, hsw, hswl, hswc, hb10⟩
  replace hb10 : Below w9.heap.size w9 w10 := (show Below w9.heap.size w9 w9.drew from (Below.refl _ _).drew).trans hb10
  replace hswl : w9.heap.size ≤ sw := hswl
  have hsz9 := H9.out.2.2.2.2.2.2.2
  have hckl := hck.lt (by simp)
  have HB10 : Hid (Below w8.heap.size w9 w10) := hb10.mono (by omega)
  have z10 := H9.out.2.2.2.1.keep hb10
  have v34 := z10.1 34 _ rfl
  have g34 := z10.2 34 (by rw [ndZ_len]; omega)
  have v35 := z10.1 35 _ rfl
  have g35 := z10.2 35 (by rw [ndZ_len]; omega)
  have v36 := z10.1 36 _ rfl
  have g36 := z10.2 36 (by rw [ndZ_len]; omega)
  have v37 := z10.1 37 _ rfl
  have g37 := z10.2 37 (by rw [ndZ_len]; omega)
  have v38 := z10.1 38 _ rfl
  have g38 := z10.2 38 (by rw [ndZ_len]; omega)
  have v39 := z10.1 39 _ rfl
  have g39 := z10.2 39 (by rw [ndZ_len]; omega)
  have z11 := BoxF.puts [.int .i64 hd, .pointer (some ⟨ck, 0, none⟩), .pointer none, .bool false, .int .i64 (-1), .int .i64 0] 34 z10 (by rw [ndZ_len]; simp)
  have HB11 : Hid (Below w8.heap.size w9 (w10.setCells w8.heap.size 34 [.int .i64 hd, .pointer (some ⟨ck, 0, none⟩), .pointer none, .bool false, .int .i64 (-1), .int .i64 0])) := setCells_below (Nat.le_refl _) _ _ _ _ HB10.out
  have H11 := Lib.hid (And.intro (H9.out.1.trans (HB11.out.mono (Nat.le_of_lt HLT.out.1))) (And.intro (H9.out.2.1.same (HB11.out.block _ HLT.out.1)) (And.intro (H9.out.2.2.1.same (HB11.out.block _ HLT.out.2)) (And.intro z11 (And.intro (H9.out.2.2.2.2.1.same (HB11.out.block _ H9.out.2.2.2.2.2.2.1)) (And.intro (hck.same (setCells_at (B := w8.heap.size) (by omega) [.int .i64 hd, .pointer (some ⟨ck, 0, none⟩), .pointer none, .bool false, .int .i64 (-1), .int .i64 0] w10 34)) (And.intro (hsw.same (setCells_at (B := w8.heap.size) (by omega) [.int .i64 hd, .pointer (some ⟨ck, 0, none⟩), .pointer none, .bool false, .int .i64 (-1), .int .i64 0] w10 34)) (And.intro hswc (And.intro (show w8.heap.size < sw by omega) (show ck < (w10.setCells w8.heap.size 34 [.int .i64 hd, .pointer (some ⟨ck, 0, none⟩), .pointer none, .bool false, .int .i64 (-1), .int .i64 0]).heap.size by rw [setCells_size]; exact hckl))))))))))
  obtain ⟨w11, hw11⟩ : ∃ w11, w10.setCells w8.heap.size 34 [.int .i64 hd, .pointer (some ⟨ck, 0, none⟩), .pointer none, .bool false, .int .i64 (-1), .int .i64 0] = w11 := ⟨_, rfl⟩
  rw [hw11] at H11 HB11
  simp only [World.setCells, Nat.reduceAdd] at hw11
  clear z10 z11 hb10 hck hsw hswl hswc hsz9 hckl
  refine ⟨HB10.out, by rfl, ?_⟩
  go_simp
  refine ⟨HB10.out, by rfl, ?_⟩
  go_simp
  refine ⟨HB10.out, by rfl, ?_⟩
  go_simp
  refine ⟨HB10.out, by rfl, ?_⟩
  go_simp
  refine ⟨HB11.out, ?_⟩
  refine wpMid_nil ?_
  clear v34 g34 v35 g35 v36 g36 v37 g37 v38 g38 v39 g39
  have HS11 : Hid (∀ W, Below w8.heap.size w11 W → BoxF W w.heap.size [.int .i64 n, .slice none 0 0, .int .i64 f, .int .i64 dmin, .int .i64 dmax, .int .i64 rho, .int .i64 slew, .int .i64 round, .int .i64 window, .int .i64 attend, .int .i64 seen, .int .i64 hist, .int .i64 fly, .int .i64 quota, .int .i64 body] ∧ BoxF W w2.heap.size [.int .i64 b0, .int .i64 b1, .int .i64 b2, .int .i64 b3, .int .i64 b4, .int .i64 b5, .int .i64 b6, .int .i64 b7, .int .i64 b8, .int .i64 b9, .int .i64 b10, .int .i64 b11, .int .i64 b12, .int .i64 b13]) := fun W hW => ⟨H11.out.2.1.same (hW.block _ HLT.out.1), H11.out.2.2.1.same (hW.block _ HLT.out.2)⟩
  have HD11 : Hid (Below w8.heap.size w11 w11.drew) := (Below.refl _ _).drew
  go_wp2_with fail
  refine wp_region_perm [] [0, 1, 2, 3, 4, 5, 6, 8, 9, 10, 11, 13, 14, 15, 16, 18, 19] [7, 12, 17, 20, 21, 22, 23, 24] 25 30 (fun W => Below w8.heap.size w11 W) (by kernel_rfl) (by kernel_rfl) (by intro c a t v w h; exact h) HD11.out ?_
  simp only [pickL, List.drop_succ_cons, List.drop_zero, List.head?_cons, Option.toList_some, List.cons_append, List.nil_append]
  refine wpHead_nil ?_
  iterate 17 (refine wpHead_step _ (by rfl) (by intro W hW; obtain ⟨zc, zb⟩ := HS11.out W hW; have z0 := zc.1 0 _ rfl; have z1 := zc.1 1 _ rfl; have z2 := zc.1 2 _ rfl; have z3 := zc.1 3 _ rfl; have z4 := zc.1 4 _ rfl; have z5 := zc.1 5 _ rfl; have z6 := zc.1 6 _ rfl; have z7 := zc.1 7 _ rfl; have z8 := zc.1 8 _ rfl; have z9 := zc.1 9 _ rfl; have z10 := zc.1 10 _ rfl; have z11 := zc.1 11 _ rfl; have z12 := zc.1 12 _ rfl; have z13 := zc.1 13 _ rfl; have z14 := zc.1 14 _ rfl; have y0 := zb.1 0 _ rfl; have y1 := zb.1 1 _ rfl; have y2 := zb.1 2 _ rfl; have y3 := zb.1 3 _ rfl; have y4 := zb.1 4 _ rfl; have y5 := zb.1 5 _ rfl; have y6 := zb.1 6 _ rfl; have y7 := zb.1 7 _ rfl; have y8 := zb.1 8 _ rfl; have y9 := zb.1 9 _ rfl; have y10 := zb.1 10 _ rfl; have y11 := zb.1 11 _ rfl; have y12 := zb.1 12 _ rfl; have y13 := zb.1 13 _ rfl; clear zc zb hW; go_simp; with_reducible rfl) ?_; simp only [Act.put, List.setIfInBounds_toArray, List.set_cons_zero, List.set_cons_succ])
  refine wpHead_nil ?_
  refine ⟨by rfl, ?_⟩
  go_simp
  go_at_call 64
  refine (relayNew i n seen ⟨b0, b1, b2, b3, b4, b5, b6, b7, b8, b9, b10, b11, b12, b13⟩ _).mono ?_
  rintro e w12 ⟨rel, sen, tab, tmp, rfl, hrel, hsen, htab, htmp, u1, u2, u3, u4, hb12⟩
  replace hb12 : Below w11.heap.size w11 w12 := (show Below w11.heap.size w11 w11.drew from (Below.refl _ _).drew).trans hb12
  replace u1 : w11.heap.size ≤ tmp := u1
  have hN11 : w8.heap.size < w11.heap.size := by have h1 := H11.out.2.2.2.2.2.2.2.2.1; have h2 := H11.out.2.2.2.2.2.2.2.2.2; have h3 := H11.out.2.2.2.2.2.2.2.1; omega
  have HB12 := Lib.hid (And.intro hb12 (hb12.mono (Nat.le_of_lt hN11)))
  have HR := Lib.hid (And.intro hrel (And.intro hsen (And.intro htab (And.intro htmp (And.intro u1 (And.intro u2 (And.intro u3 (And.intro u4 (hrel.lt (by simp))))))))))
  clear hb12 hrel hsen htab htmp u1 u2 u3 u4 hN11
  refine ⟨HB12.out.2, by rfl, ?_⟩
  go_simp
  go_at_call 65
  refine (histNew hist b11 _).mono ?_
  rintro e w13 ⟨hst, htb, htm, hq, rfl, h1, h2, h3, h4, u1, u2, u3, u4, hb13⟩
  have HB13 := Lib.hid (And.intro hb13 (And.intro (HB12.out.1.trans (hb13.mono HB12.out.1.size)) (HB12.out.2.trans (hb13.mono (by have := HB12.out.1.size; have := HB12.out.2.size; have := HB11.out.size; have := H9.out.2.2.2.2.2.2.2; omega)))))
  have HH := Lib.hid (And.intro h1 (And.intro h2 (And.intro h3 (And.intro h4 (And.intro u1 (And.intro u2 (And.intro u3 (And.intro u4 (h1.lt (by simp))))))))))
  clear hb13 h1 h2 h3 h4 u1 u2 u3 u4
  refine ⟨HB13.out.2.2, by rfl, ?_⟩
  go_simp
  go_at_call 66
  refine (quotaNew quota body _).mono ?_
  rintro e w14 ⟨quo, rfl, h1, u1, hb14⟩
  have HB14 := Lib.hid (And.intro hb14 (And.intro (HB13.out.2.1.trans (hb14.mono HB13.out.2.1.size)) (HB13.out.2.2.trans (hb14.mono (by have := HB13.out.2.1.size; have := HB11.out.size; have := H9.out.2.2.2.2.2.2.2; omega)))))
  have HQ := Lib.hid (And.intro h1 (And.intro u1 (h1.lt (by simp))))
  clear hb14 h1 u1
  refine ⟨HB14.out.2.2, by rfl, ?_⟩
  go_simp
  go_at_call 67
  refine (rollNew seen _).mono ?_
  rintro e w15 ⟨rol, rom, rfl, h1, h2, u1, u2, hb15⟩
  have HB15 := Lib.hid (And.intro hb15 (And.intro (HB14.out.2.1.trans (hb15.mono HB14.out.2.1.size)) (HB14.out.2.2.trans (hb15.mono (by have := HB14.out.2.1.size; have := HB11.out.size; have := H9.out.2.2.2.2.2.2.2; omega)))))
  have HO := Lib.hid (And.intro h1 (And.intro h2 (And.intro u1 (And.intro u2 (h1.lt (by simp))))))
  clear hb15 h1 h2 u1 u2
  have z15 := H11.out.2.2.2.1.keep HB15.out.2.1
  have v40 := z15.1 40 _ rfl
  have g40 := z15.2 40 (by rw [putL_len, ndZ_len]; omega)
  have v41 := z15.1 41 _ rfl
  have g41 := z15.2 41 (by rw [putL_len, ndZ_len]; omega)
  have v42 := z15.1 42 _ rfl
  have g42 := z15.2 42 (by rw [putL_len, ndZ_len]; omega)
  have v43 := z15.1 43 _ rfl
  have g43 := z15.2 43 (by rw [putL_len, ndZ_len]; omega)
  have z16 := BoxF.puts [.pointer (some ⟨rel, 0, none⟩), .pointer (some ⟨hst, 0, none⟩), .pointer (some ⟨quo, 0, none⟩), .pointer (some ⟨rol, 0, none⟩)] 40 z15 (by rw [putL_len, ndZ_len]; simp)
  have HB16 : Hid (Below w8.heap.size w11 (w15.setCells w8.heap.size 40 [.pointer (some ⟨rel, 0, none⟩), .pointer (some ⟨hst, 0, none⟩), .pointer (some ⟨quo, 0, none⟩), .pointer (some ⟨rol, 0, none⟩)])) := setCells_below (Nat.le_refl _) _ _ _ _ HB15.out.2.2
  have F16 : Hid (FrB w8.heap.size w15 (w15.setCells w8.heap.size 40 [.pointer (some ⟨rel, 0, none⟩), .pointer (some ⟨hst, 0, none⟩), .pointer (some ⟨quo, 0, none⟩), .pointer (some ⟨rol, 0, none⟩)])) := setCells_fr _ _ _
  obtain ⟨w16, hw16⟩ : ∃ w16, w15.setCells w8.heap.size 40 [.pointer (some ⟨rel, 0, none⟩), .pointer (some ⟨hst, 0, none⟩), .pointer (some ⟨quo, 0, none⟩), .pointer (some ⟨rol, 0, none⟩)] = w16 := ⟨_, rfl⟩
  rw [hw16] at z16 HB16 F16
  have H16 := Lib.hid z16
  simp only [World.setCells, Nat.reduceAdd] at hw16
  clear z15 z16
  refine ⟨HB15.out.2.2, by rfl, ?_⟩
  go_simp
  refine ⟨HB15.out.2.2, by rfl, ?_⟩
  go_simp
  refine ⟨HB15.out.2.2, by rfl, ?_⟩
  go_simp
  refine ⟨HB15.out.2.2, by rfl, ?_⟩
  go_simp
  refine ⟨HB16.out, ?_⟩
  refine wpMid_nil ?_
  clear v40 g40 v41 g41 v42 g42 v43 g43
  go_wp2_with fail
  refine (joinNew _).mono ?_
  rintro e w17 ⟨jn, rfl, h1, u1, hb17⟩
  have F17 := Lib.hid (FrB.of (b := w8.heap.size) hb17)
  have HJ := Lib.hid (And.intro h1 (And.intro u1 (h1.lt (by simp))))
  have z17 := H16.out.keep hb17
  have H17 := Lib.hid z17
  clear h1 u1 hb17 z17
  go_wp2_with fail
  refine (viewNew _).mono ?_
  rintro e w18 ⟨vws, rfl, h1, u1, hb18⟩
  have F18 := Lib.hid (FrB.of (b := w8.heap.size) hb18)
  have HV := Lib.hid (And.intro h1 (And.intro u1 (h1.lt (by simp))))
  have z18 := H17.out.keep hb18
  have v44 := z18.1 44 _ rfl
  have g44 := z18.2 44 (by rw [putL_len, putL_len, ndZ_len]; omega)
  have v45 := z18.1 45 _ rfl
  have g45 := z18.2 45 (by rw [putL_len, putL_len, ndZ_len]; omega)
  have v46 := z18.1 46 _ rfl
  have g46 := z18.2 46 (by rw [putL_len, putL_len, ndZ_len]; omega)
  have v47 := z18.1 47 _ rfl
  have g47 := z18.2 47 (by rw [putL_len, putL_len, ndZ_len]; omega)
  have v48 := z18.1 48 _ rfl
  have g48 := z18.2 48 (by rw [putL_len, putL_len, ndZ_len]; omega)
  have v49 := z18.1 49 _ rfl
  have g49 := z18.2 49 (by rw [putL_len, putL_len, ndZ_len]; omega)
  have z19 := BoxF.puts [.pointer (some ⟨jn, 0, none⟩), .pointer (some ⟨vws, 0, none⟩), .int .u64 0, .int .i64 0, .int .i64 0, .int .i64 0] 44 z18 (by rw [putL_len, putL_len, ndZ_len]; simp)
  have F19 : Hid (FrB w8.heap.size w18 (w18.setCells w8.heap.size 44 [.pointer (some ⟨jn, 0, none⟩), .pointer (some ⟨vws, 0, none⟩), .int .u64 0, .int .i64 0, .int .i64 0, .int .i64 0])) := setCells_fr _ _ _
  obtain ⟨w19, hw19⟩ : ∃ w19, w18.setCells w8.heap.size 44 [.pointer (some ⟨jn, 0, none⟩), .pointer (some ⟨vws, 0, none⟩), .int .u64 0, .int .i64 0, .int .i64 0, .int .i64 0] = w19 := ⟨_, rfl⟩
  rw [hw19] at z19 F19
  have H19 := Lib.hid z19
  simp only [World.setCells, Nat.reduceAdd] at hw19
  clear h1 u1 hb18 z18 z19
  go_wp2_with fail
  refine (logNew _).mono ?_
  rintro e w20 ⟨lg, rfl, h1, u1, hb20⟩
  have F20 := Lib.hid (FrB.of (b := w8.heap.size) hb20)
  have HL := Lib.hid (And.intro h1 (And.intro u1 (h1.lt (by simp))))
  have z20 := H19.out.keep hb20
  have H20 := Lib.hid z20
  clear h1 u1 hb20 z20 v44 g44 v45 g45 v46 g46 v47 g47 v48 g48 v49 g49
  go_wp2_with fail
  refine (pieceNew i _).mono ?_
  rintro e w21 ⟨pie, pim, rfl, h1, h2, u1, u2, hb21⟩
  have F21 := Lib.hid (FrB.of (b := w8.heap.size) hb21)
  have HI := Lib.hid (And.intro h1 (And.intro h2 (And.intro u1 (And.intro u2 (h1.lt (by simp))))))
  have z21 := H20.out.keep hb21
  have H21 := Lib.hid z21
  have z22 := BoxF.puts (.pointer (some ⟨lg, 0, none⟩) :: (ledZ ++ [.bool false, .int .i64 0, .pointer (some ⟨pie, 0, none⟩)])) 50 z21 (by rw [putL_len, putL_len, putL_len, ndZ_len]; simp [ledZ])
  have hsto := z21.storeN 50 (.pointer (some ⟨lg, 0, none⟩) :: (ledZ ++ [.bool false, .int .i64 0, .pointer (some ⟨pie, 0, none⟩)])) (by rw [putL_len, putL_len, putL_len, ndZ_len]; simp [ledZ]) (by intro v hv; simp [ledZ, List.mem_replicate] at hv; rcases hv with rfl | rfl | rfl | rfl | rfl | rfl | rfl <;> rfl)
  rw [← books_eq] at hsto z22
  have F22 : Hid (FrB w8.heap.size w21 (w21.setCells w8.heap.size 50 ((Tryz.zeroCells155.toList.set 0 (.pointer (some ⟨lg, 0, none⟩))).set 69 (.pointer (some ⟨pie, 0, none⟩))))) := setCells_fr _ _ _
  obtain ⟨w22, hw22⟩ : ∃ w22, w21.setCells w8.heap.size 50 ((Tryz.zeroCells155.toList.set 0 (.pointer (some ⟨lg, 0, none⟩))).set 69 (.pointer (some ⟨pie, 0, none⟩))) = w22 := ⟨_, rfl⟩
  rw [hw22] at hsto z22 F22
  rw [books_eq] at z22
  have HF : Hid (NdPost ⟨n, f, dmin, dmax, rho, slew, round, window, attend, seen, hist, fly, quota, body⟩ L i hard w (.returned (.tuple #[.pointer (some ⟨w8.heap.size, 0, none⟩), .int .i64 0])) w22) := by
    have f21 := F22.out
    have f20 := F21.out.trans f21
    have f19 := F20.out.trans f20
    have f18 := F19.out.trans f19
    have f17 := F18.out.trans f18
    have f16 := F17.out.trans f17
    have f15 := F16.out.trans f16
    have f14 := (FrB.of (b := w8.heap.size) HB15.out.1).trans f15
    have f13 := (FrB.of (b := w8.heap.size) HB14.out.1).trans f14
    have f12 := (FrB.of (b := w8.heap.size) HB13.out.1).trans f13
    have f11 := (FrB.of (b := w8.heap.size) HB12.out.1).trans f12
    have hb := HBN.out HX.out.2.2.1
    unfold bnOf at hb
    injection hb with e0 e1 e2 e3 e4 e5 e6 e7 e8 e9 e10 e11 e12 e13
    have p3 := HNR.out
    refine HP.out w22 ⟨sr, w8.heap.size, sw, ck, tmp, tab, sen, rel, htm, htb, hq, hst, quo, rom, rol, jn, vws, lg, pim, pie⟩ (H11.out.1.trans (f11.below (Nat.le_of_lt HLT.out.1) H11.out.1.size)) ?_
    exact node_done n f dmin dmax rho slew round window attend seen hist fly quota body b0 b1 b2 b3 b4 b5 b6 b7 b8 b9 b10 b11 b12 b13 ⟨e0, e1, e2, e3, e4, e5, e6, e7, e8, e9, e10, e11, e12, e13⟩ HPE.out.1 HPE.out.2 p3 HHD.out z22 f11 f12 f13 f14 f15 f17 f18 f20 f21 H9.out.2.2.2.2.2.1 H9.out.2.2.2.2.2.2.1 H11.out.2.2.2.2 HR.out HH.out HQ.out HO.out HJ.out HV.out HL.out HI.out F16.out.size F19.out.size
  clear h1 h2 u1 u2 hb21 z21 z22
  go_wp2
  go_ret2
  exact HF.out
end Go.Proofs.YteahiphmhaedpaaGreatDoor
