/- The walk of FamilyFew. -/
import Derived.Test.YtjclhjijpailoaaGreatDoorFamI
namespace Go.Proofs.YtjclhjijpailoaaGreatDoor
open Go.RowKit Law
set_option linter.unusedVariables false
set_option linter.unusedSimpArgs false
set_option maxRecDepth 100000

def dnV (d : Nat) : List Value := (List.range 64).map fun q => Value.bool (d.testBit q)
theorem dnV_len (d : Nat) : (dnV d).length = 64 := by simp [dnV]
theorem dnV_at (d : Nat) {q : Nat} (hq : q < 64) : (dnV d)[q]? = some (.bool (d.testBit q)) := by simp [dnV, hq]
theorem dnV_set (d e i : Nat) (hi : i < 64) (b : Bool) (h : ∀ q, q < 64 → e.testBit q = if q = i then b else d.testBit q) : (dnV d).set i (.bool b) = dnV e := by
  apply List.ext_getElem?
  intro q
  by_cases hq : q < 64
  · rw [dnV_at e hq, h q hq]
    by_cases hqi : q = i
    · subst hqi
      rw [List.getElem?_set_self (by rw [dnV_len]; exact hq), if_pos rfl]
    · rw [List.getElem?_set_ne (fun e => hqi e.symm), dnV_at d hq, if_neg hqi]
  · rw [List.getElem?_eq_none (by rw [List.length_set, dnV_len]; omega), List.getElem?_eq_none (by rw [dnV_len]; omega)]
theorem bit_or (d i q : Nat) : (d ||| 2 ^ i).testBit q = if q = i then true else d.testBit q := by
  rw [Nat.testBit_or, Nat.testBit_two_pow]
  by_cases h : i = q
  · subst h; simp
  · rw [if_neg (fun e => h e.symm)]; simp [h]
theorem bit_not (d i q : Nat) : (d ^^^ (d &&& 2 ^ i)).testBit q = if q = i then false else d.testBit q := by
  rw [Nat.testBit_xor, Nat.testBit_and, Nat.testBit_two_pow]
  by_cases h : i = q
  · subst h; simp
  · rw [if_neg (fun e => h e.symm)]; simp [h]
/-- What the last loop finds: nothing there is wrong. -/
theorem downs_step {N : Nat} {l : List Fd} {d e : Nat} {j : Nat} (hj : j < l.length) (h1 : downs N (l.take j) = some d) (h2 : downs N (l.take (j + 1)) = some e) : dstep N (some d) l[j] = some e := by
  rw [List.take_succ_eq_append_getElem hj, downs_snoc, h1] at h2
  exact h2
theorem dstep_cases {N : Nat} {d e : Nat} {a : Fd} (h : dstep N (some d) a = some e) : ∃ i : Nat, a.node = (i : Int) ∧ i < N ∧
    ((a.k = 4 ∧ d.testBit i = false ∧ e = d ||| 2 ^ i) ∨ (a.k = 5 ∧ d.testBit i = true ∧ e = d ^^^ (d &&& 2 ^ i)) ∨ (a.k = 7 ∧ d.testBit i = false ∧ e = d) ∨ (a.k ≠ 4 ∧ a.k ≠ 5 ∧ a.k ≠ 7 ∧ e = d)) := by
  unfold dstep at h
  simp only [] at h
  split at h
  · rename_i hn
    refine ⟨a.node.toNat, by omega, by omega, ?_⟩
    split at h
    · rename_i hk
      split at h
      · cases h
      · rename_i hb
        injection h with h
        exact .inl ⟨hk, by simpa using hb, h.symm⟩
    · rename_i h4
      split at h
      · rename_i hk
        split at h
        · rename_i hb
          injection h with h
          exact .inr (.inl ⟨hk, hb, h.symm⟩)
        · cases h
      · rename_i h5
        split at h
        · rename_i hk
          split at h
          · cases h
          · rename_i hb
            injection h with h
            exact .inr (.inr (.inl ⟨hk, by simpa using hb, h.symm⟩))
        · rename_i h7
          injection h with h
          exact .inr (.inr (.inr ⟨h4, h5, h7, h.symm⟩))
  · cases h
theorem inv_fold {near : List Nat} {c : Cn} (hN : 1 ≤ near.length) (h64 : near.length ≤ 64) : ∀ (bs : List Nat) (S : MS), FInv near.length c S → FInv near.length c (bs.foldl (addN near c) S)
  | [], S, h => h
  | b :: bs, S, h => inv_fold hN h64 bs _ (h.addN hN h64 b)
set_option maxHeartbeats 12800000 in
theorem walkFFew (d0 d1 d2 d3 : Nat) (b0 : d0 < 256) (b1 : d1 < 256) (b2 : d2 < 256) (b3 : d3 < 256) (B : Option Addr) (len cap : Nat) (bs : List Nat) (hbl : bs.length = len) (hlc : len ≤ cap) (hcm : cap ≤ maxLen) (hbs : ∀ x ∈ bs, x < 256) (w : World) (hB : URow w w.heap.size B bs) (hT : T64 w) :
    Calls Tryz.prog 3 #[.agg #[.int .u8 (d0 : Int), .int .u8 (d1 : Int), .int .u8 (d2 : Int), .int .u8 (d3 : Int)], .slice B len cap] w fun e w' => e = .returned (.bool true) ∧ Below w.heap.size w w' := by
  have hb1 := (Below.refl w.heap.size w).alloc (Nat.le_refl _) (.cells #[.int .u8 (d0 : Int), .int .u8 (d1 : Int), .int .u8 (d2 : Int), .int .u8 (d3 : Int)] 22)
  have CS := Lib.hid (lawSmall d0 d1 d2 d3 b0 b1 b2 b3 (w.alloc (.cells #[.int .u8 (d0 : Int), .int .u8 (d1 : Int), .int .u8 (d2 : Int), .int .u8 (d3 : Int)] 22)))
  have H0 := Lib.hid (And.intro hb1 (And.intro hbs (And.intro hB (And.intro hT hbl))))
  have hlm : (len : Int) ≤ 9223372036854775807 := by unfold maxLen at hcm; omega
  clear hb1 hbs hB hT hbl b0 b1 b2 b3
  go_enter Tryz.func3, Tryz.ntmps3
  go_wp2_with fail
  refine CS.out.mono ?_
  rintro e w2 h2
  obtain ⟨c, L, A, k, hF0, hn4, hf0, hLF, hL6, rfl, hLA, hb2⟩ := h2
  obtain ⟨l, hl⟩ : ∃ l, L.length = l := ⟨_, rfl⟩
  rw [hl] at hL6 ⊢
  have hb02 : Below w.heap.size w w2 := H0.out.1.trans (hb2.mono (by simp))
  have CN := fun (W : World) hA hT => famNew c A l k L hl hLF (by omega) (fun _ => by omega) W hA hT
  have hgood := fault_good hF0
  have hnear := nearL_len c.n.toNat L
  obtain ⟨near, hnr⟩ : ∃ near, nearL c.n.toNat L = near := ⟨_, rfl⟩
  unfold FamPost at CN
  rw [hnr] at CN hnear
  rw [hF0] at CN
  have HC : Hid (c.n = (near.length : Int) ∧ 1 ≤ near.length ∧ near.length ≤ 64 ∧ (0 ≤ c.rho ∧ c.rho ≤ 64) ∧ 0 ≤ c.f) := ⟨by omega, by omega, by omega, hgood.1, hf0⟩
  clear hnr hF0 hgood hnear hf0 hn4 hLF hL6 hl
  obtain ⟨n, f, dmin, dmax, rho, slew, round, window, attend, seen, hist, fly, quota, body⟩ := c
  have k0 := boxF_made w2 [.int .i64 n, .slice A l k, .int .i64 f, .int .i64 dmin, .int .i64 dmax, .int .i64 rho, .int .i64 slew, .int .i64 round, .int .i64 window, .int .i64 attend, .int .i64 seen, .int .i64 hist, .int .i64 fly, .int .i64 quota, .int .i64 body] 26
  have k1 := (Below.refl w2.heap.size w2).alloc (Nat.le_refl _) (.cells #[.int .i64 n, .slice A l k, .int .i64 f, .int .i64 dmin, .int .i64 dmax, .int .i64 rho, .int .i64 slew, .int .i64 round, .int .i64 window, .int .i64 attend, .int .i64 seen, .int .i64 hist, .int .i64 fly, .int .i64 quota, .int .i64 body] 26)
  have hs3 : (w2.alloc (.cells #[.int .i64 n, .slice A l k, .int .i64 f, .int .i64 dmin, .int .i64 dmax, .int .i64 rho, .int .i64 slew, .int .i64 round, .int .i64 window, .int .i64 attend, .int .i64 seen, .int .i64 hist, .int .i64 fly, .int .i64 quota, .int .i64 body] 26)).heap.size = w2.heap.size + 1 := by simp
  obtain ⟨w3, hw3⟩ : ∃ w3, w2.alloc (.cells #[.int .i64 n, .slice A l k, .int .i64 f, .int .i64 dmin, .int .i64 dmax, .int .i64 rho, .int .i64 slew, .int .i64 round, .int .i64 window, .int .i64 attend, .int .i64 seen, .int .i64 hist, .int .i64 fly, .int .i64 quota, .int .i64 body] 26) = w3 := ⟨_, rfl⟩
  rw [hw3] at k0 k1 hs3
  have CN := Lib.hid (CN w3 (hLA.below k1) ((H0.out.2.2.2.1.below hb02).below k1))
  have H3 := Lib.hid (And.intro (hb02.trans (k1.mono hb02.size)) (And.intro k0 hs3))
  have kc0 := k0.1 0 _ rfl
  have kc1 := k0.1 1 _ rfl
  have kc2 := k0.1 2 _ rfl
  have kc3 := k0.1 3 _ rfl
  have kc4 := k0.1 4 _ rfl
  have kc5 := k0.1 5 _ rfl
  have kc6 := k0.1 6 _ rfl
  have kc7 := k0.1 7 _ rfl
  have kc8 := k0.1 8 _ rfl
  have kc9 := k0.1 9 _ rfl
  have kc10 := k0.1 10 _ rfl
  have kc11 := k0.1 11 _ rfl
  have kc12 := k0.1 12 _ rfl
  have kc13 := k0.1 13 _ rfl
  have kc14 := k0.1 14 _ rfl
  clear hLA hb2 hb02 k0 k1 hs3
  simp only [Cn.cells, List.length_cons, List.length_nil]
  go_wp2_with fail
  refine CN.out.mono ?_
  rintro e w4 ⟨M, rfl, hM, hb4, hok, -⟩
  obtain ⟨base, G, R, hAt⟩ := hok (by trivial)
  have hlt : M < base := by obtain ⟨v, vs, h⟩ := hAt; exact h.lt.1
  have q4 := H3.out.2.1.keep hb4
  have kd0 := q4.1 0 _ rfl
  have kd2 := q4.1 2 _ rfl
  have hne : w2.heap.size ≠ M := by have := H3.out.2.2; omega
  have H4 : Hid (MkAt w4 M base ⟨n, f, dmin, dmax, rho, slew, round, window, attend, seen, hist, fly, quota, body⟩ G R near S0 ∧ Below w.heap.size w w4 ∧ M < base ∧ w2.heap.size < M ∧ w.heap.size ≤ M ∧ base ≤ w4.heap.size) := ⟨hAt, H3.out.1.trans (hb4.mono H3.out.1.size), hlt, by have := H3.out.2.2; omega, by have := H3.out.1.size; omega, hAt.le⟩
  have hBM := H0.out.2.2.1.later (M' := M) H4.out.2.1 (by have := H3.out.1.size; omega)
  have H5 := Lib.hid (And.intro hBM q4)
  clear hok hAt hlt q4 hBM hb4 hM kc0 kc1 kc2 kc3 kc4 kc5 kc6 kc7 kc8 kc9 kc10 kc11 kc12 kc13 kc14
  go_wp2_with fail
  go_loopw [7] (fun i wr => ∃ j : Nat, j ≤ len ∧ j ≤ 300 ∧ i = .int .i64 j ∧ MkAt wr M base ⟨n, f, dmin, dmax, rho, slew, round, window, attend, seen, hist, fly, quota, body⟩ G R near ((bs.take j).foldl (addN near ⟨n, f, dmin, dmax, rho, slew, round, window, attend, seen, hist, fly, quota, body⟩) S0) ∧ FrM M base w4 wr) (fun i _ => 300 - (intOf i).toNat)
  case atStart => exact ⟨0, Nat.zero_le _, Nat.zero_le _, rfl, H4.out.1, FrM.refl _ _ _⟩
  case round =>
    obtain ⟨j, hjl, hj3, rfl, hMk, hFr⟩ := hrel
    have hinv := inv_fold HC.out.2.1 HC.out.2.2.1 (bs.take j) S0 (FInv.start (N := near.length) (c := ⟨n, f, dmin, dmax, rho, slew, round, window, attend, seen, hist, fly, quota, body⟩) HC.out.2.2.2.2)
    by_cases hlt : j < len ∧ j < 300
    · obtain ⟨hl1, hl3⟩ := hlt
      have hlI : (j : Int) < (len : Int) := by omega
      have hl3I : (j : Int) < 300 := by omega
      have hkl : j < bs.length := by rw [H0.out.2.2.2.2]; exact hl1
      obtain ⟨Bb, off, rfl, hbM, hcell⟩ := H5.out.1 j _ (List.getElem?_eq_getElem hkl)
      have hcw : wr.cell? ⟨Bb, off + j, none⟩ = some (.int .u8 ((bs[j] : Nat) : Int)) := (cell_same (hFr.block Bb (by have := H4.out.2.2.1; omega) (by omega))).trans hcell
      have hfl := foldl_len near ⟨n, f, dmin, dmax, rho, slew, round, window, attend, seen, hist, fly, quota, body⟩ (bs.take j) S0
      rw [List.length_take, show S0.acts.length = 0 from rfl] at hfl
      have C1 := Lib.hid (famAdd hMk HC.out.1 HC.out.2.1 HC.out.2.2.2.1 bs[j] (H0.out.2.1 _ (List.getElem_mem hkl)) (by omega))
      have HX : Hid ((bs.take (j + 1)).foldl (addN near ⟨n, f, dmin, dmax, rho, slew, round, window, attend, seen, hist, fly, quota, body⟩) S0 = addN near ⟨n, f, dmin, dmax, rho, slew, round, window, attend, seen, hist, fly, quota, body⟩ ((bs.take j).foldl (addN near ⟨n, f, dmin, dmax, rho, slew, round, window, attend, seen, hist, fly, quota, body⟩) S0) bs[j]) := by
        unfold Hid
        rw [List.take_succ_eq_append_getElem hkl, List.foldl_append]
        rfl
      have HN := Lib.hid (hinv.addN HC.out.2.1 HC.out.2.2.1 bs[j])
      have HF := Lib.hid hFr
      clear hMk hFr hinv hcell hfl
      generalize bs[j] = xb at *
      clear hkl
      go_wp2_with fail
      refine C1.out.mono ?_
      rintro e w5 ⟨rfl, h5, hf5⟩
      obtain ⟨v5, vs5, hV⟩ := h5
      have hy := hV.cell 17 _ rfl
      have HV := Lib.hid (And.intro hV (HF.out.trans hf5))
      have hcf : w5.cell? ⟨w2.heap.size, 2, none⟩ = some (.int .i64 f) := (cell_same (HV.out.2.block _ (by have := H4.out.2.2.1; have := H4.out.2.2.2.1; omega) hne)).trans kd2
      have C2 := Lib.hid (fun (W : World) hc => (famFaultyC (w := W) (M := M) (x := (addN near ⟨n, f, dmin, dmax, rho, slew, round, window, attend, seen, hist, fly, quota, body⟩ ((bs.take j).foldl (addN near ⟨n, f, dmin, dmax, rho, slew, round, window, attend, seen, hist, fly, quota, body⟩) S0) xb).fy) hc).mono fun _ _ h => And.intro h.1 h.2.symm)
      have C3 := Lib.hid (fun W => nodesCount (addN near ⟨n, f, dmin, dmax, rho, slew, round, window, attend, seen, hist, fly, quota, body⟩ ((bs.take j).foldl (addN near ⟨n, f, dmin, dmax, rho, slew, round, window, attend, seen, hist, fly, quota, body⟩) S0) xb).fy hV.bits.2 W)
      have hfew : ((els (addN near ⟨n, f, dmin, dmax, rho, slew, round, window, attend, seen, hist, fly, quota, body⟩ ((bs.take j).foldl (addN near ⟨n, f, dmin, dmax, rho, slew, round, window, attend, seen, hist, fly, quota, body⟩) S0) xb).fy).length : Int) ≤ f := by have := HN.out.few; exact this
      obtain ⟨fy, hfy⟩ : ∃ fy, (addN near ⟨n, f, dmin, dmax, rho, slew, round, window, attend, seen, hist, fly, quota, body⟩ ((bs.take j).foldl (addN near ⟨n, f, dmin, dmax, rho, slew, round, window, attend, seen, hist, fly, quota, body⟩) S0) xb).fy = fy := ⟨_, rfl⟩
      rw [hfy] at hy C2 C3 hfew
      obtain ⟨q, hq⟩ : ∃ q, (els fy).length = q := ⟨_, rfl⟩
      rw [hq] at C3 hfew
      clear hV hf5 hcw hq hfy
      go_wp2_with fail
      go_quiet (first | (go_at_call 9; exact Calls.quiet_of_same (C2.out _ (by simp [*]))) | (go_at_call 8; exact Calls.quiet_of_same (C3.out _)))
      go_wp2
      go_roundw
      case rel => exact ⟨j + 1, by omega, by omega, by go_num, by rw [HX.out]; exact ⟨_, _, HV.out.1.kept (below_draws (Below.refl _ _) _)⟩, HV.out.2.trans (FrM.of (below_draws (Below.refl _ _) _))⟩
      case measure => simp [intOf]; omega
    · have hfl := foldl_len near ⟨n, f, dmin, dmax, rho, slew, round, window, attend, seen, hist, fly, quota, body⟩ (bs.take j) S0
      rw [List.length_take, show S0.acts.length = 0 from rfl] at hfl
      have h4b := H4.out.2
      obtain ⟨S1, hS1⟩ : ∃ S1, (bs.take j).foldl (addN near ⟨n, f, dmin, dmax, rho, slew, round, window, attend, seen, hist, fly, quota, body⟩) S0 = S1 := ⟨_, rfl⟩
      rw [hS1] at hMk hinv hfl
      have hb5 : Below w.heap.size w wr := H4.out.2.1.trans ((hFr.below (by omega)).mono (by omega))
      have q5 : BoxF wr w2.heap.size [.int .i64 n, .slice A l k, .int .i64 f, .int .i64 dmin, .int .i64 dmax, .int .i64 rho, .int .i64 slew, .int .i64 round, .int .i64 window, .int .i64 attend, .int .i64 seen, .int .i64 hist, .int .i64 fly, .int .i64 quota, .int .i64 body] := ⟨fun o v hv => (cell_same (hFr.block _ (by omega) hne)).trans (H5.out.2.1 o v hv), fun o ho => (frozen_same (hFr.block _ (by omega) hne)).trans (H5.out.2.2 o ho)⟩
      have hzd : (dnV 0).toArray = #[.bool false, .bool false, .bool false, .bool false, .bool false, .bool false, .bool false, .bool false, .bool false, .bool false, .bool false, .bool false, .bool false, .bool false, .bool false, .bool false, .bool false, .bool false, .bool false, .bool false, .bool false, .bool false, .bool false, .bool false, .bool false, .bool false, .bool false, .bool false, .bool false, .bool false, .bool false, .bool false, .bool false, .bool false, .bool false, .bool false, .bool false, .bool false, .bool false, .bool false, .bool false, .bool false, .bool false, .bool false, .bool false, .bool false, .bool false, .bool false, .bool false, .bool false, .bool false, .bool false, .bool false, .bool false, .bool false, .bool false, .bool false, .bool false, .bool false, .bool false, .bool false, .bool false, .bool false, .bool false] := by kernel_rfl
      have hba := (Below.refl wr.heap.size wr).alloc (Nat.le_refl _) (.cells (dnV 0).toArray 35)
      have k5 := boxF_made wr (dnV 0) 35
      rw [hzd] at hba k5
      obtain ⟨w5, hw5⟩ : ∃ w5, wr.alloc (.cells #[.bool false, .bool false, .bool false, .bool false, .bool false, .bool false, .bool false, .bool false, .bool false, .bool false, .bool false, .bool false, .bool false, .bool false, .bool false, .bool false, .bool false, .bool false, .bool false, .bool false, .bool false, .bool false, .bool false, .bool false, .bool false, .bool false, .bool false, .bool false, .bool false, .bool false, .bool false, .bool false, .bool false, .bool false, .bool false, .bool false, .bool false, .bool false, .bool false, .bool false, .bool false, .bool false, .bool false, .bool false, .bool false, .bool false, .bool false, .bool false, .bool false, .bool false, .bool false, .bool false, .bool false, .bool false, .bool false, .bool false, .bool false, .bool false, .bool false, .bool false, .bool false, .bool false, .bool false, .bool false] 35) = w5 := ⟨_, rfl⟩
      have hs5 : w5.heap.size = wr.heap.size + 1 := by rw [← hw5]; simp
      rw [hw5] at hba k5
      have q6 := q5.keep hba
      have C4 := Lib.hid (famActs (hMk.kept hba) (by omega))
      have hsz : w2.heap.size < wr.heap.size := q5.lt (by simp)
      have H6 := Lib.hid (And.intro (hb5.trans (hba.mono hb5.size)) (And.intro k5 (And.intro q6 (And.intro hinv.dn (And.intro hsz (And.intro hs5 hb5.size))))))
      have hT5 := Lib.hid ((H0.out.2.2.2.1.below hb5).below hba)
      have hla : S1.acts.length ≤ 100000 := by omega
      clear H6
      obtain ⟨D, hDD⟩ : ∃ D, wr.heap.size = D := ⟨_, rfl⟩
      have hszD := hsz
      have hwD := hb5.size
      rw [hDD] at k5 hszD hs5 hwD
      have H6 := Lib.hid (And.intro (hb5.trans (hba.mono hb5.size)) (And.intro k5 (And.intro q6 (And.intro hinv.dn (And.intro hszD (And.intro hs5 hwD))))))
      have hex : ¬ ((j : Int) < (len : Int)) ∨ ((j : Int) < (len : Int) ∧ ¬ (j : Int) < 300) := by omega
      clear hb5 q5 hba k5 q6 hMk hFr hinv hS1 hfl h4b hsz hs5 hlt hjl hj3 hzd hszD hwD
      rcases hex with hx | ⟨hx, hx2⟩
      all_goals
        go_wp2_with fail
        refine C4.out.mono ?_
        clear hDD
        rintro e w6 ⟨A6, k6, rfl, hF6, hb6, hn6⟩
        have H7 := Lib.hid (And.intro hF6 (And.intro hb6 (And.intro hn6 ((H6.out.2.1.keep hb6)))))
        have H8 := Lib.hid (And.intro (H6.out.2.2.1.keep hb6) (And.intro (H6.out.1.trans (hb6.mono H6.out.1.size)) (hT5.out.below hb6)))
        have hDlt : D < w6.heap.size := by have := hb6.size; have := H6.out.2.2.2.2.2.1; omega
        obtain ⟨m, hm⟩ : ∃ m, S1.acts.length = m := ⟨_, rfl⟩
        rw [hm] at hla ⊢
        have HM := Lib.hid hm
        clear hF6 hb6 hn6 hm
        go_wp2_with fail
        go_loopw [47] (fun i W => ∃ q d : Nat, q ≤ m ∧ i = .int .i64 q ∧ downs near.length (S1.acts.take q) = some d ∧ BoxF W D (dnV d) ∧ FrM D w6.heap.size w6 W) (fun i _ => m - (intOf i).toNat)
        case atStart => exact ⟨0, 0, Nat.zero_le _, rfl, rfl, H7.out.2.2.2, FrM.refl _ _ _⟩
        case round =>
          obtain ⟨q, d, hq, rfl, hd, hD, hF⟩ := hrel
          by_cases hlt : q < m
          · have hql : q < S1.acts.length := by rw [HM.out]; exact hlt
            have hqI : (q : Int) < (m : Int) := by omega
            have hmI : (m : Int) ≤ 100000 := by omega
            obtain ⟨e, he⟩ := downs_take H6.out.2.2.2.1 (q + 1)
            obtain ⟨i, hai, hiN, hcs⟩ := dstep_cases (downs_step hql hd he)
            obtain ⟨b, off, x, rfl, hblt, ⟨xA, xn, xc, rfl⟩, hcell⟩ := H7.out.1.at_ hql
            obtain ⟨a, ha⟩ : ∃ a, S1.acts[q] = a := ⟨_, rfl⟩
            rw [ha] at hai hcs hcell
            obtain ⟨ak, an, ann, afk, afd, afa⟩ := a
            have hai' : an = (i : Int) := hai
            subst hai'
            have hbD : b ≠ D := by have := H7.out.2.2.1 b off rfl; have := H6.out.2.2.2.2.2.1; omega
            have hcw : ∀ j v, ((Fd.mk ak (i : Int) ann afk afd afa).cells (.slice xA xn xc))[j]? = some v → wr.cell? ⟨b, off + q * 9 + j, none⟩ = some v := fun j v hv => (cell_same (hF.block b hblt hbD)).trans (hcell j v hv)
            have e0 : wr.cell? ⟨b, off + q * 9, none⟩ = some (.int .i64 ak) := hcw 0 _ rfl
            have e1 := hcw 1 _ rfl
            have e2 := hcw 2 _ rfl
            have e3 := hcw 3 _ rfl
            have e4 := hcw 4 _ rfl
            have e5 := hcw 5 _ rfl
            have e6 := hcw 6 _ rfl
            have e7 := hcw 7 _ rfl
            have e8 := hcw 8 _ rfl
            have hiN' : (i : Int) < n := by have h1 := HC.out.1; have h1' : n = (near.length : Int) := h1; omega
            have hi64 : i < 64 := by have := HC.out.2.2.1; omega
            have i1 : (i : Int) < 64 := by omega
            have i2 : ((i : Int)).toNat = i := by omega
            have hcN : wr.cell? ⟨w2.heap.size, 0, none⟩ = some (.int .i64 n) := (cell_same (hF.block _ (by have := H6.out.2.2.2.2.1; omega) (by have := H6.out.2.2.2.2.1; omega))).trans (H8.out.1.1 0 _ rfl)
            have hdc := hD.1 i _ (dnV_at d hi64)
            have hdf := hD.2 i (by rw [dnV_len]; exact hi64)
            have hDq : D < wr.heap.size := hD.lt (by rw [dnV_len]; omega)
            have hDne : D ≠ wr.heap.size := by omega
            have hclt : w2.heap.size < wr.heap.size := by have h := World.block_lt_of_cell? _ _ hcN; exact h
            have hcne : w2.heap.size ≠ wr.heap.size := by have h := World.block_lt_of_cell? _ _ hcN; exact Nat.ne_of_lt h
            have hba := (Below.refl wr.heap.size wr).alloc (Nat.le_refl _) (.cells #[.int .i64 ak, .int .i64 (i : Int), .int .i64 ann, .int .i64 afk, .int .i64 afd, .int .i64 afa, .int .u32 0, .int .u32 0, .slice xA xn xc] 42)
            have hsq : w6.heap.size ≤ wr.heap.size := hF.size
            have HD := Lib.hid (And.intro hD (And.intro hF (And.intro he (And.intro hba hsq))))
            have HI := Lib.hid (And.intro hi64 hq)
            clear hD hF hd he hql ha hcell hcw hblt hq hba
            rcases hcs with ⟨hk, hbit, rfl⟩ | ⟨hk, hbit, rfl⟩ | ⟨hk, hbit, rfl⟩ | ⟨hk4, hk5, hk7, rfl⟩
            · have hk' : ak = 4 := hk
              subst hk'
              rw [hbit] at hdc
              have HS : Hid (BoxF ((wr.setCell ⟨D, i, none⟩ (.bool true)).alloc (.cells #[.int .i64 4, .int .i64 (i : Int), .int .i64 ann, .int .i64 afk, .int .i64 afd, .int .i64 afa, .int .u32 0, .int .u32 0, .slice xA xn xc] 42)) D (dnV (d ||| 2 ^ i)) ∧ FrM D w6.heap.size w6 ((wr.setCell ⟨D, i, none⟩ (.bool true)).alloc (.cells #[.int .i64 4, .int .i64 (i : Int), .int .i64 ann, .int .i64 afk, .int .i64 afd, .int .i64 afa, .int .u32 0, .int .u32 0, .slice xA xn xc] 42))) := by
                have hp := HD.out.1.put i (by rw [dnV_len]; exact HI.out.1) (.bool true)
                rw [dnV_set d (d ||| 2 ^ i) i HI.out.1 true (fun q _ => bit_or d i q)] at hp
                exact ⟨hp.keep ((Below.refl _ _).alloc (Nat.le_refl _) _), (HD.out.2.1.trans (FrM.set _ _ _)).trans (FrM.of ((Below.refl _ _).alloc (by simpa using HD.out.2.2.2.2) _))⟩
              go_wp2
              go_roundw
              case rel => exact ⟨q + 1, _, by omega, by go_num, HD.out.2.2.1, HS.out.1, HS.out.2⟩
              case measure => simp [intOf]; omega
            · have hk' : ak = 5 := hk
              subst hk'
              rw [hbit] at hdc
              have HS : Hid (BoxF ((wr.setCell ⟨D, i, none⟩ (.bool false)).alloc (.cells #[.int .i64 5, .int .i64 (i : Int), .int .i64 ann, .int .i64 afk, .int .i64 afd, .int .i64 afa, .int .u32 0, .int .u32 0, .slice xA xn xc] 42)) D (dnV (d ^^^ (d &&& 2 ^ i))) ∧ FrM D w6.heap.size w6 ((wr.setCell ⟨D, i, none⟩ (.bool false)).alloc (.cells #[.int .i64 5, .int .i64 (i : Int), .int .i64 ann, .int .i64 afk, .int .i64 afd, .int .i64 afa, .int .u32 0, .int .u32 0, .slice xA xn xc] 42))) := by
                have hp := HD.out.1.put i (by rw [dnV_len]; exact HI.out.1) (.bool false)
                rw [dnV_set d (d ^^^ (d &&& 2 ^ i)) i HI.out.1 false (fun q _ => bit_not d i q)] at hp
                exact ⟨hp.keep ((Below.refl _ _).alloc (Nat.le_refl _) _), (HD.out.2.1.trans (FrM.set _ _ _)).trans (FrM.of ((Below.refl _ _).alloc (by simpa using HD.out.2.2.2.2) _))⟩
              go_wp2
              go_roundw
              case rel => exact ⟨q + 1, _, by omega, by go_num, HD.out.2.2.1, HS.out.1, HS.out.2⟩
              case measure => simp [intOf]; omega
            · have hk' : ak = 7 := hk
              subst hk'
              rw [hbit] at hdc
              go_wp2
              go_roundw
              case rel => exact ⟨q + 1, _, by omega, by go_num, HD.out.2.2.1, HD.out.1.keep HD.out.2.2.2.1, HD.out.2.1.trans (FrM.of (HD.out.2.2.2.1.mono HD.out.2.2.2.2))⟩
              case measure => simp [intOf]; omega
            · have hk4' : (ak == 4) = false := beq_eq_false_iff_ne.2 hk4
              have hk5' : (ak == 5) = false := beq_eq_false_iff_ne.2 hk5
              have hk7' : (ak == 7) = false := beq_eq_false_iff_ne.2 hk7
              clear hk4 hk5 hk7
              go_wp2
              go_roundw
              case rel => exact ⟨q + 1, _, by omega, by go_num, HD.out.2.2.1, HD.out.1.keep HD.out.2.2.2.1, HD.out.2.1.trans (FrM.of (HD.out.2.2.2.1.mono HD.out.2.2.2.2))⟩
              case measure => simp [intOf]; omega
          · obtain rfl : q = m := by omega
            have hbq : Below D w6 wr := hF.below (by omega)
            have H9 := Lib.hid (H8.out.2.1.trans (hbq.mono H6.out.2.2.2.2.2.2))
            have C5 := Lib.hid (works53 wr (H0.out.2.2.2.1.below H9.out))
            clear hbq hD hF hd
            go_wp2_with fail
            refine C5.out.mono ?_
            rintro e w7 ⟨rfl, hb7⟩
            have HE := Lib.hid (H9.out.trans (hb7.mono H9.out.size))
            clear hb7
            go_wp2
            go_ret
            exact ⟨rfl, HE.out⟩
end Go.Proofs.YtjclhjijpailoaaGreatDoor
