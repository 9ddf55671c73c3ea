/- The reference's Get of a ledger. -/
import Derived.Test.YtncmbbkcpmimjaaDoorRdF
namespace Go.Proofs.YtncmbbkcpmimjaaDoor
open Go.RowKit Law
set_option linter.unusedVariables false

theorem cut_drop (b : List UInt8) (o n : Nat) : cutN (b.drop o) 0 n = cutN b o n := by unfold cutN; rw [List.drop_zero]
theorem cutN_64 (b : List UInt8) (o : Nat) : cutN b o 8 < 18446744073709551616 := Nat.lt_of_lt_of_eq (cutN_lt b o 8) (by decide)
theorem cutN_32 (b : List UInt8) (o : Nat) : cutN b o 4 < 4294967296 := Nat.lt_of_lt_of_eq (cutN_lt b o 4) (by decide)
theorem refGF8 (A : Option Addr) (m c m' c' : Nat) (hm' : m - 8 = m') (hc' : c - 8 = c') (L : List UInt8) (hL : L.length = m) (hnm : 8 ≤ m) (hmc : m ≤ c) : ∃ A', (∀ W, U8At W A L → U8At W A' (L.drop 8)) ∧
    ∀ W, U8At W A L → Calls Tryd.prog 43 #[.slice A m c, .int .i64 8] W fun en w' => en = .returned (.tuple #[.int .u64 (cutN L 0 8 : Int), .slice A' m' c', .int .i64 0]) ∧ ∃ k, w' = W.drewN k := by
  subst hm' hc'
  exact ⟨_, fun W h => h.drop 8 c (by omega), fun W h => refGetFixed 8 (by omega) (by omega) A m c L hL hnm hmc W h⟩
theorem refGF4 (A : Option Addr) (m c m' c' : Nat) (hm' : m - 4 = m') (hc' : c - 4 = c') (L : List UInt8) (hL : L.length = m) (hnm : 4 ≤ m) (hmc : m ≤ c) : ∃ A', (∀ W, U8At W A L → U8At W A' (L.drop 4)) ∧
    ∀ W, U8At W A L → Calls Tryd.prog 43 #[.slice A m c, .int .i64 4] W fun en w' => en = .returned (.tuple #[.int .u64 (cutN L 0 4 : Int), .slice A' m' c', .int .i64 0]) ∧ ∃ k, w' = W.drewN k := by
  subst hm' hc'
  exact ⟨_, fun W h => h.drop 4 c (by omega), fun W h => refGetFixed 4 (by omega) (by omega) A m c L hL hnm hmc W h⟩
/-- What the reference's Get hands back. -/
def GetPost (b : List UInt8) (q : Nat) (w : World) (en : Ending) (w' : World) : Prop := ∃ A' m' c', en = .returned (.tuple #[.agg (getR b q).1.cells.toArray, .slice A' m' c', .int .i64 (getR b q).2]) ∧ Below w.heap.size w w' ∧ ((getR b q).2 = 0 → m' = (b.drop (16 + 4 * q)).length)
section
attribute [local go_sem ↓] exec_ld
attribute [local go_sem] ptr0_mk ptrB_mk
set_option maxHeartbeats 6400000 in
set_option maxRecDepth 100000 in
theorem refGet (A : Option Addr) (m c : Nat) (b : List UInt8) (hb : b.length = m) (hmc : m ≤ c) (hm4 : m ≤ 400) (n : Int) (w : World) (hA : U8At w A b) :
    Calls Tryd.prog 21 #[.slice A m c, .int .i64 n] w (GetPost b (clampN n) w) := by
  obtain ⟨hz, -⟩ := zero_of_info ldZero
  unfold Ld.val at hz
  obtain ⟨q, hq⟩ : ∃ q, clampN n = q := ⟨_, rfl⟩
  have hq64 := clampN_le n
  have CN := Lib.hid (refNodes n)
  rw [hq] at hq64 CN ⊢
  clear hq
  have hR0 := LdBox.new w Ld0 26
  have hb0 : Below w.heap.size w (w.alloc (.cells Ld0.cells.toArray 26)) := (Below.refl _ _).alloc (Nat.le_refl _) _
  have HA := Lib.hid (And.intro hR0 (And.intro hb0 (And.intro hA hb)))
  clear hR0 hb0 hA hb
  by_cases hlen : m < 16 + 4 * q
  · have HR : Hid (getR b q = (Ld0, 3)) := by unfold Hid getR; rw [if_pos (by rw [HA.out.2.2.2]; exact hlen)]
    go_enter Tryd.func21, Tryd.ntmps21
    go_wp2_with fail
    refine (CN.out _).mono ?_
    rintro en w1 ⟨rfl, rfl⟩
    have hl : (m : Int) < 16 + 4 * (q : Int) := by omega
    go_wp2_with (first | (refine wp_ldBuild0 rfl rfl ?_) | (refine wp_ldStore rfl _ _ rfl w.heap.size Ld0 Ld0 rfl rfl Ld0.fits Ld0.fits HA.out.1 ?_; intro w9 hB9 hbb hoo))
    refine bodyPost_ret (v := .tuple #[.agg Ld0.cells.toArray, .slice none 0 0, .int .i64 3]) (by simp [results, Tryd.results21, asAddr, ldLoadU hB9.1 Ld0.fits, Ld.val]) rfl ⟨none, 0, 0, by rw [HR.out], hbb _ _ (Nat.le_refl _) HA.out.2.1, fun h => by rw [HR.out] at h; cases h⟩
  · have hb16 : 16 ≤ b.length := by rw [HA.out.2.2.2]; omega
    have hl : decide ((m : Int) < 16 + 4 * (q : Int)) = false := by simp; omega
    have hm16 : 16 ≤ m := by omega
    obtain ⟨m1, hm1⟩ : ∃ x, m - 8 = x := ⟨_, rfl⟩
    obtain ⟨c1, hc1⟩ : ∃ x, c - 8 = x := ⟨_, rfl⟩
    obtain ⟨m2, hm2⟩ : ∃ x, m1 - 8 = x := ⟨_, rfl⟩
    obtain ⟨c2, hc2⟩ : ∃ x, c1 - 8 = x := ⟨_, rfl⟩
    obtain ⟨A1, hA1, D1⟩ := refGF8 A m c m1 c1 hm1 hc1 b HA.out.2.2.2 (by omega) hmc
    obtain ⟨A2, hA2, D2⟩ := refGF8 A1 m1 c1 m2 c2 hm2 hc2 (b.drop 8) (by rw [List.length_drop, HA.out.2.2.2]; exact hm1) (by omega) (by omega)
    have hmm : m2 + 16 = m ∧ m2 ≤ c2 := by omega
    clear hm1 hm2 hc1 hc2
    rw [cut_drop] at D2
    rw [List.drop_drop] at hA2
    obtain ⟨x1, hx1⟩ : ∃ x, cutN b 0 8 = x := ⟨_, rfl⟩
    obtain ⟨x2, hx2⟩ : ∃ x, cutN b 8 8 = x := ⟨_, rfl⟩
    have h64 := cutN_64 b 8
    rw [hx2] at h64
    simp only [hx1] at D1
    simp only [hx2] at D2
    obtain ⟨cnt, hcnt⟩ : ∃ cnt, IntKind.i64.wrap (x1 : Int) = cnt := ⟨_, rfl⟩
    have HX : Hid (getL b 0 = ⟨cnt, x2, List.replicate 64 0⟩) := by
      unfold Hid getL getOf
      rw [hx1, hx2, ← hcnt]
      rfl
    have D1 := Lib.hid D1
    have D2 := Lib.hid D2
    have HA2 := Lib.hid (And.intro hA1 hA2)
    have hL0 : LdBox ((w.alloc (.cells Ld0.cells.toArray 26)).alloc (.cells Ld0.cells.toArray 26)) (w.heap.size + 1) Ld0 := by
      have := LdBox.new (w.alloc (.cells Ld0.cells.toArray 26)) Ld0 26
      rwa [World.size_alloc] at this
    have hbA := HA.out.2.1.alloc (by simp) (.cells Ld0.cells.toArray 26)
    have hRA := HA.out.1.below ((Below.refl _ _).alloc (Nat.le_refl _) (.cells Ld0.cells.toArray 26))
    have H0 := Lib.hid (And.intro hL0 (And.intro hRA hbA))
    clear hL0 hRA hbA hx1 hx2 hA1 hA2 hb16
    go_enter Tryd.func21, Tryd.ntmps21
    go_wp2_with fail
    refine (CN.out _).mono ?_
    rintro en w1 ⟨rfl, rfl⟩
    go_wp2_with (first | (refine wp_ldBuild0 rfl rfl ?_) | (refine wp_ldStore rfl _ _ rfl (w.heap.size + 1) Ld0 Ld0 rfl rfl Ld0.fits Ld0.fits H0.out.1 ?_; intro w2 hB2 hbb hoo))
    have H2 := Lib.hid (And.intro hB2 (And.intro (hoo _ _ (by omega) H0.out.2.1) (hbb _ _ (Nat.le_succ _) H0.out.2.2)))
    clear hB2 hbb hoo
    refine (D1.out _ (HA.out.2.2.1.keep H2.out.2.2)).mono ?_
    rintro en w3 ⟨rfl, k3, rfl⟩
    have hb3 : Below w2.heap.size w2 (w2.drewN k3) := below_draws (Below.refl _ _) k3
    have hL3 := H2.out.1.below hb3
    have hk0 := hL3.1.count
    have hg0 := hL3.2 0 (by omega)
    have hL4 := hL3.count cnt
    have hR4 := (H2.out.2.1.below hb3).other (a := ⟨w.heap.size + 1, 0, none⟩) (by simp) (.int .i64 cnt)
    have hb4 : Below w.heap.size w ((w2.drewN k3).setCell ⟨w.heap.size + 1, 0, none⟩ (.int .i64 cnt)) := (H2.out.2.2.trans (hb3.mono H2.out.2.2.size)).setCell (p := ⟨w.heap.size + 1, 0, none⟩) (by simp) _
    have H4 := Lib.hid (And.intro hL4 (And.intro hR4 hb4))
    clear hb3 hL3 hL4 hR4 hb4
    go_wp2_with fail
    refine (D2.out _ (HA2.out.1 _ (HA.out.2.2.1.keep H4.out.2.2))).mono ?_
    rintro en w5 ⟨rfl, k5, rfl⟩
    have hb5 : Below ((w2.drewN k3).setCell ⟨w.heap.size + 1, 0, none⟩ (.int .i64 cnt)).heap.size ((w2.drewN k3).setCell ⟨w.heap.size + 1, 0, none⟩ (.int .i64 cnt)) (((w2.drewN k3).setCell ⟨w.heap.size + 1, 0, none⟩ (.int .i64 cnt)).drewN k5) := below_draws (Below.refl _ _) k5
    have hL5 := H4.out.1.below hb5
    have hk1 := hL5.1.sum
    have hg1 := hL5.2 1 (by omega)
    clear hk0 hg0
    have hL6 : LdBox ((((w2.drewN k3).setCell ⟨w.heap.size + 1, 0, none⟩ (.int .i64 cnt)).drewN k5).setCell ⟨w.heap.size + 1, 1, none⟩ (.int .u64 (x2 : Int))) (w.heap.size + 1) (getL b 0) := by rw [HX.out]; exact hL5.sum x2
    have hR6 := (H4.out.2.1.below hb5).other (a := ⟨w.heap.size + 1, 1, none⟩) (by simp) (.int .u64 (x2 : Int))
    have hb6 : Below w.heap.size w ((((w2.drewN k3).setCell ⟨w.heap.size + 1, 0, none⟩ (.int .i64 cnt)).drewN k5).setCell ⟨w.heap.size + 1, 1, none⟩ (.int .u64 (x2 : Int))) := (H4.out.2.2.trans (hb5.mono H4.out.2.2.size)).setCell (p := ⟨w.heap.size + 1, 1, none⟩) (by simp) _
    have H6 := Lib.hid (And.intro hL6 (And.intro hR6 (And.intro hb6 (fun W (hW : U8At W A b) => HA2.out.2 W (HA2.out.1 W hW)))))
    clear hL6 hR6 hb6 hb5 hL5
    go_wp2_with fail
    go_loopw [9, 11] (fun s i wr => ∃ (k m' c' : Nat) (A' : Option Addr), k ≤ q ∧ i = .int .i64 k ∧ s = .slice A' m' c' ∧ m' + (16 + 4 * k) = m ∧ m' ≤ c' ∧ LdBox wr (w.heap.size + 1) (getL b k) ∧ LdBox wr w.heap.size Ld0 ∧ Below w.heap.size w wr ∧ (∀ W, U8At W A b → U8At W A' (b.drop (16 + 4 * k)))) (fun _ i _ => q - (intOf i).toNat)
    case atStart => exact ⟨0, m2, c2, A2, Nat.zero_le _, rfl, rfl, by omega, hmm.2, H6.out⟩
    case round =>
      obtain ⟨k, m', c', A', hk, rfl, rfl, hm', hc', hL, hR, hB, hU⟩ := hrel
      clear hk1 hg1
      by_cases hlt : k < q
      · have hdl : (b.drop (16 + 4 * k)).length = m' := by rw [List.length_drop, HA.out.2.2.2]; omega
        obtain ⟨m3, hm3⟩ : ∃ x, m' - 4 = x := ⟨_, rfl⟩
        obtain ⟨c3, hc3⟩ : ∃ x, c' - 4 = x := ⟨_, rfl⟩
        obtain ⟨A3, hA3, D3⟩ := refGF4 A' m' c' m3 c3 hm3 hc3 (b.drop (16 + 4 * k)) hdl (by omega) hc'
        rw [cut_drop] at D3
        rw [List.drop_drop] at hA3
        have h32 := cutN_32 b (16 + 4 * k)
        have hset := getOf_set b (k := k) (by omega)
        obtain ⟨x, hx⟩ : ∃ x, cutN b (16 + 4 * k) 4 = x := ⟨_, rfl⟩
        simp only [hx] at D3
        rw [hx] at h32 hset
        have hlen4 : (getL b k).of.length = 64 := getOf_len b (by omega)
        have HS := Lib.hid (And.intro hset (And.intro hlen4 (show m3 + (16 + 4 * (k + 1)) = m ∧ m3 ≤ c3 by omega)))
        have D3 := Lib.hid D3
        have HK := Lib.hid (And.intro hL (And.intro hR (And.intro hB (fun W (hW : U8At W A b) => And.intro (hU W hW) (hA3 W (hU W hW))))))
        have hkq : k < 64 := by omega
        clear hm3 hc3 hdl hx hset hlen4 hL hR hB hU hA3 hm' hc'
        go_wp2_with fail
        refine (CN.out _).mono ?_
        rintro en w7 ⟨rfl, rfl⟩
        go_wp2_with fail
        refine (D3.out _ (HK.out.2.2.2 _ (HA.out.2.2.1.keep HK.out.2.2.1)).1).mono ?_
        rintro en w7 ⟨rfl, k7, rfl⟩
        have hb7 : Below wr.heap.size wr (wr.drewN k7) := below_draws (Below.refl _ _) k7
        have hL7 := HK.out.1.below hb7
        have hkk : k < (getL b k).of.length := by rw [HS.out.2.1]; exact hkq
        have hc7 := hL7.1.of hkk
        obtain ⟨c0, hc0⟩ : ∃ c0, (getL b k).of[k]'hkk = c0 := ⟨_, rfl⟩
        rw [hc0] at hc7
        have hg7 := hL7.2 (2 + k) (by omega)
        have hL8 : LdBox ((wr.drewN k7).setCell ⟨w.heap.size + 1, 2 + k, none⟩ (.int .u32 (x : Int))) (w.heap.size + 1) (getL b (k + 1)) := by
          have := hL7.of k x hkk
          unfold getL at this ⊢
          simp only at this
          rw [HS.out.1] at this
          exact this
        have hR8 := (HK.out.2.1.below hb7).other (a := ⟨w.heap.size + 1, 2 + k, none⟩) (by simp) (.int .u32 (x : Int))
        have hb8 : Below w.heap.size w ((wr.drewN k7).setCell ⟨w.heap.size + 1, 2 + k, none⟩ (.int .u32 (x : Int))) := (HK.out.2.2.1.trans (hb7.mono HK.out.2.2.1.size)).setCell (p := ⟨w.heap.size + 1, 2 + k, none⟩) (by simp) _
        have hU8 := fun W (hW : U8At W A b) => (HK.out.2.2.2 W hW).2
        have HF := Lib.hid (And.intro hL8 (And.intro hR8 (And.intro hb8 hU8)))
        clear hb7 hL7 hL8 hR8 hb8 hU8 hc0 hkk
        go_wp2
        go_roundw
        case rel => exact ⟨k + 1, m3, c3, A3, by omega, by go_num, rfl, HS.out.2.2.1, HS.out.2.2.2, HF.out⟩
        case measure => simp [intOf]; omega
      · obtain rfl : k = q := by omega
        obtain ⟨TT, hTT⟩ : ∃ TT, totK (getL b k) 64 = TT := ⟨_, rfl⟩
        have hlf := getL_fits b hq64
        have CT := fun (W : Later wr) => refTotal (getL b k) hlf W.val
        rw [hTT] at CT
        unfold Ld.val at CT
        have CT := Lib.hid CT
        have HK := Lib.hid (And.intro hL (And.intro hR (And.intro hB hm')))
        have hcc : ∀ W : Later wr, W.val.cell? ⟨w.heap.size + 1, 0, none⟩ = some (.int .i64 (getL b k).count) := fun W => (HK.out.1.below W.h).1.count
        have HLA : Hid (∀ w', (∃ W : Later wr, w' = W.val) → LdAt w' (w.heap.size + 1) (getL b k)) := by
          rintro w' ⟨W, rfl⟩
          exact (HK.out.1.below W.h).1
        have HT := Lib.hid hTT
        have HLF := Lib.hid hlf
        have hblen : ¬ b.length < 16 + 4 * k := by rw [HA.out.2.2.2]; exact hlen
        obtain ⟨cn, hcn⟩ : ∃ cn, (getL b k).count = cn := ⟨_, rfl⟩
        simp only [hcn] at hcc
        have HCN := Lib.hid hcn
        have HDL : Hid (m' = (b.drop (16 + 4 * k)).length) := by unfold Hid; rw [List.length_drop, HA.out.2.2.2]; omega
        have HBL := Lib.hid hblen
        clear hTT hlf hL hR hB hU hcn hblen
        by_cases hneg : cn < 0
        · have HR : Hid (getR b k = (Ld0, 5)) := by unfold Hid getR; rw [if_neg HBL.out, if_pos (.inl (by rw [HCN.out]; exact hneg))]
          go_wp2_with fail
          refine (CN.out _).mono ?_
          rintro en w7 ⟨rfl, rfl⟩
          go_wp2_with fail
          refine wp_region_later (by kernel_rfl) (by kernel_rfl) ?_
          repeat (go_big_quiet_step (exact later_of (CT.out _)))
          refine wpQuiet_nil ?_
          rintro _ ⟨⟨W, hW⟩, rfl⟩
          try dsimp only
          have HW := Lib.hid (And.intro (HK.out.2.1.below hW) (HK.out.2.2.1.trans (hW.mono HK.out.2.2.1.size)))
          clear hcc
          go_wp2_with (first | (refine wp_ldBuild0 rfl rfl ?_) | (refine wp_ldStore rfl _ _ rfl w.heap.size Ld0 Ld0 rfl rfl Ld0.fits Ld0.fits HW.out.1 ?_; intro w9 hB9 hbb hoo))
          refine bodyPost_ret (v := .tuple #[.agg Ld0.cells.toArray, .slice none 0 0, .int .i64 5]) (by simp [results, Tryd.results21, asAddr, ldLoadU hB9.1 Ld0.fits, Ld.val]) rfl ⟨_, _, _, by rw [HR.out], hbb _ _ (Nat.le_refl _) HW.out.2, fun h => by rw [HR.out] at h; cases h⟩
        · have hdn : decide (cn < 0) = false := by simpa using hneg
          by_cases hne : cn = (TT : Int)
          · have HR : Hid (getR b k = (getL b k, 0)) := by
              unfold Hid getR
              rw [if_neg HBL.out, if_neg (by rw [HCN.out, HT.out]; omega)]
            have hd : (cn != (TT : Int)) = false := by simp [hne]
            have HNE := Lib.hid hne
            clear hne
            go_wp2_with fail
            refine (CN.out _).mono ?_
            rintro en w7 ⟨rfl, rfl⟩
            go_wp2_with fail
            refine wp_region_later (by kernel_rfl) (by kernel_rfl) ?_
            repeat (go_big_quiet_step (fail))
            refine BigFrame.wpQuiet_want rfl fun K hK => ?_
            refine quiet_ldLoad _ rfl (w.heap.size + 1) rfl (getL b k) HLF.out HLA.out ?_
            refine hK _ ?_
            clear hK
            dsimp only [Act.put]
            simp only [List.setIfInBounds_toArray, List.set_cons_succ, List.set_cons_zero]
            repeat (go_big_quiet_step (exact later_of (CT.out _)))
            refine wpQuiet_nil ?_
            rintro _ ⟨⟨W, hW⟩, rfl⟩
            try dsimp only
            have HW := Lib.hid (And.intro (HK.out.2.1.below hW) (HK.out.2.2.1.trans (hW.mono HK.out.2.2.1.size)))
            have hl9 := LdHas.of HLF.out (HLA.out _ ⟨⟨_, hW⟩, rfl⟩)
            have hf3 := hl9.fit
            have hf4 := hl9.eq
            clear hcc hl9
            go_wp2_with (first | (refine wp_ldBuild0 rfl rfl ?_) | (refine wp_ldStore rfl _ _ rfl w.heap.size Ld0 (getL b k) rfl rfl Ld0.fits HLF.out HW.out.1 ?_; intro w9 hB9 hbb hoo))
            refine bodyPost_ret (v := .tuple #[.agg ((getL b k)).cells.toArray, .slice A' m' c', .int .i64 0]) (by simp [results, Tryd.results21, asAddr, ldLoadU hB9.1 HLF.out, Ld.val]) rfl ⟨_, _, _, by rw [HR.out], hbb _ _ (Nat.le_refl _) HW.out.2, fun h => HDL.out⟩
          · have HR : Hid (getR b k = (Ld0, 5)) := by
              unfold Hid getR
              rw [if_neg HBL.out, if_pos (.inr (by rw [HCN.out, HT.out]; exact hne))]
            have hd : (cn != (TT : Int)) = true := by simp [hne]
            have HNE := Lib.hid hne
            clear hne
            go_wp2_with fail
            refine (CN.out _).mono ?_
            rintro en w7 ⟨rfl, rfl⟩
            go_wp2_with fail
            refine wp_region_later (by kernel_rfl) (by kernel_rfl) ?_
            repeat (go_big_quiet_step (fail))
            refine BigFrame.wpQuiet_want rfl fun K hK => ?_
            refine quiet_ldLoad _ rfl (w.heap.size + 1) rfl (getL b k) HLF.out HLA.out ?_
            refine hK _ ?_
            clear hK
            dsimp only [Act.put]
            simp only [List.setIfInBounds_toArray, List.set_cons_succ, List.set_cons_zero]
            repeat (go_big_quiet_step (exact later_of (CT.out _)))
            refine wpQuiet_nil ?_
            rintro _ ⟨⟨W, hW⟩, rfl⟩
            try dsimp only
            have HW := Lib.hid (And.intro (HK.out.2.1.below hW) (HK.out.2.2.1.trans (hW.mono HK.out.2.2.1.size)))
            clear hcc
            go_wp2_with (first | (refine wp_ldBuild0 rfl rfl ?_) | (refine wp_ldStore rfl _ _ rfl w.heap.size Ld0 Ld0 rfl rfl Ld0.fits Ld0.fits HW.out.1 ?_; intro w9 hB9 hbb hoo))
            refine bodyPost_ret (v := .tuple #[.agg Ld0.cells.toArray, .slice none 0 0, .int .i64 5]) (by simp [results, Tryd.results21, asAddr, ldLoadU hB9.1 Ld0.fits, Ld.val]) rfl ⟨_, _, _, by rw [HR.out], hbb _ _ (Nat.le_refl _) HW.out.2, fun h => by rw [HR.out] at h; cases h⟩
end
end Go.Proofs.YtncmbbkcpmimjaaDoor
