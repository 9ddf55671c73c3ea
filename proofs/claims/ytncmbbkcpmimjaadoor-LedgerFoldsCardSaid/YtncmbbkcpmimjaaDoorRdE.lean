/- ledger.Get: the walk. -/
import Derived.Test.YtncmbbkcpmimjaaDoorRdD
import Derived.Test.YtncmbbkcpmimjaaDoorLedX
namespace Go.Proofs.YtncmbbkcpmimjaaDoor
open Go.RowKit Law
set_option linter.unusedVariables false

section
attribute [local go_sem ↓] exec_ld
attribute [local go_sem] ptr0_mk ptrB_mk
set_option maxHeartbeats 6400000 in
set_option maxRecDepth 100000 in
theorem ledGet (br B : Nat) (b : List UInt8) (n : Int) (w : World) (h : RdSt w br B 0 b) :
    Calls Tryd.prog 20 #[.pointer (some ⟨br, 0, none⟩), .int .i64 n] w fun en w' => en = .returned (.tuple #[.agg (getR b (clampN n)).1.cells.toArray, .int .i64 (getR b (clampN n)).2]) ∧ FrR br w w' ∧ ((getR b (clampN n)).2 = 0 → RdSt w' br B 0 (b.drop (16 + 4 * clampN n))) := by
  obtain ⟨hz, -⟩ := zero_of_info ldZero
  unfold Ld.val at hz
  have hbr := h.lt
  have HB := Lib.hid h.2.1
  have hbA : Below w.heap.size w ((w.alloc (.cells Ld0.cells.toArray 26)).alloc (.cells Ld0.cells.toArray 26)) := ((Below.refl _ _).alloc (Nat.le_refl _) _).alloc (by simp) _
  have hR0 : LdBox ((w.alloc (.cells Ld0.cells.toArray 26)).alloc (.cells Ld0.cells.toArray 26)) w.heap.size Ld0 := (LdBox.new w Ld0 26).below ((Below.refl _ _).alloc (Nat.le_refl _) _)
  have hL0 : LdBox ((w.alloc (.cells Ld0.cells.toArray 26)).alloc (.cells Ld0.cells.toArray 26)) (w.heap.size + 1) Ld0 := by
    have := LdBox.new (w.alloc (.cells Ld0.cells.toArray 26)) Ld0 26
    rwa [World.size_alloc] at this
  obtain ⟨q, hq⟩ : ∃ q, clampN n = q := ⟨_, rfl⟩
  have hq64 := clampN_le n
  have CN := Lib.hid (ledNodes n)
  rw [hq] at hq64 CN ⊢
  obtain ⟨⟨e1, L1, X1⟩, hr1⟩ : ∃ r, rdS 0 b 8 = r := ⟨_, rfl⟩
  obtain ⟨⟨e2, L2, X2⟩, hr2⟩ : ∃ r, rdS e1 L1 8 = r := ⟨_, rfl⟩
  have C1 := rdFixed br B 8 (by omega) (by omega) 0 b _ (h.kept hbA)
  rw [hr1] at C1
  have C1 := Lib.hid C1
  have C2 : Hid (∀ W, RdSt W br B e1 L1 → Calls Tryd.prog 41 #[.pointer (some ⟨br, 0, none⟩), .int .i64 8] W fun en w' => en = .returned (.int .u64 (X2 : Int)) ∧ RdSt w' br B e2 L2 ∧ FrR br W w') := fun W hW => by
    have := rdFixed br B 8 (by omega) (by omega) e1 L1 W hW
    rw [hr2] at this
    exact this
  have HG := Lib.hid (GInv.start hr1 hr2)
  obtain ⟨cnt, hcnt⟩ : ∃ cnt, IntKind.i64.wrap (X1 : Int) = cnt := ⟨_, rfl⟩
  have HC : Hid (wrapI (X1 : Int) = cnt) := hcnt
  have H0 := Lib.hid (And.intro hR0 (And.intro hL0 (And.intro hbA h)))
  clear hR0 hL0 hbA h hr1 hr2 hq
  go_enter Tryd.func20, Tryd.ntmps20
  go_wp2_with fail
  refine C1.out.mono ?_
  rintro en w2 ⟨rfl, hst2, hfr2⟩
  have H2 := Lib.hid (And.intro hst2 (And.intro (H0.out.1.fr hfr2 (by omega)) (And.intro (H0.out.2.1.fr hfr2 (by omega)) ((FrR.ofBelow H0.out.2.2.1).trans hfr2))))
  clear hst2 hfr2
  go_wp2_with fail
  refine (C2.out _ H2.out.1).mono ?_
  rintro en w3 ⟨rfl, hst3, hfr3⟩
  have hR3 := H2.out.2.1.fr hfr3 (by omega)
  have hL3 := H2.out.2.2.1.fr hfr3 (by omega)
  have hF3 := H2.out.2.2.2.trans hfr3
  have hk0 := hL3.1.count
  have hk1 := hL3.1.sum
  have hg0 := hL3.2 0 (by omega)
  have hg1 := hL3.2 1 (by omega)
  have H3 := Lib.hid (And.intro hst3 (And.intro hR3 (And.intro hL3 hF3)))
  clear hst3 hfr3 hR3 hL3 hF3
  go_wp2_with fail
  refine (CN.out _).mono ?_
  rintro en w4 ⟨rfl, rfl⟩
  have hL5 : LdBox ((w3.setCell ⟨w.heap.size + 1, 0, none⟩ (.int .i64 cnt)).setCell ⟨w.heap.size + 1, 1, none⟩ (.int .u64 (X2 : Int))) (w.heap.size + 1) ⟨cnt, X2, List.replicate 64 0⟩ := (H3.out.2.2.1.count cnt).sum X2
  have hR5 : LdBox ((w3.setCell ⟨w.heap.size + 1, 0, none⟩ (.int .i64 cnt)).setCell ⟨w.heap.size + 1, 1, none⟩ (.int .u64 (X2 : Int))) w.heap.size Ld0 := (H3.out.2.1.other (by simp) _).other (by simp) _
  have hb5 : Below w.heap.size w3 ((w3.setCell ⟨w.heap.size + 1, 0, none⟩ (.int .i64 cnt)).setCell ⟨w.heap.size + 1, 1, none⟩ (.int .u64 (X2 : Int))) := ((Below.refl _ _).setCell (p := ⟨w.heap.size + 1, 0, none⟩) (by simp) _).setCell (p := ⟨w.heap.size + 1, 1, none⟩) (by simp) _
  have H5 := Lib.hid (And.intro (H3.out.1.keptB (hb5.mono HB.out)) (And.intro hR5 (And.intro hL5 (H3.out.2.2.2.thenB hb5))))
  have HG5 : Hid (GInv b e2 L2 ⟨cnt, X2, List.replicate 64 0⟩ 0) := by have := HG.out; rw [HC.out] at this; exact this
  clear hL5 hR5 hb5 hk0 hk1 hg0 hg1
  go_wp2_with fail
  go_loopw [18] (fun i wr => ∃ (k : Nat) (e : Int) (L : List UInt8) (l : Ld), k ≤ q ∧ i = .int .i64 k ∧ RdSt wr br B e L ∧ LdBox wr w.heap.size Ld0 ∧ LdBox wr (w.heap.size + 1) l ∧ FrR br w wr ∧ GInv b e L l k) (fun i _ => q - (intOf i).toNat)
  case atStart => exact ⟨0, e2, L2, _, Nat.zero_le _, rfl, H5.out.1, H5.out.2.1, H5.out.2.2.1, H5.out.2.2.2, HG5.out⟩
  case round =>
    obtain ⟨k, e, L, l, hk, rfl, hst, hR, hL, hF, hG⟩ := hrel
    by_cases hlt : k < q
    · obtain ⟨⟨e', L', X⟩, hr⟩ : ∃ r, rdS e L 4 = r := ⟨_, rfl⟩
      have hX := rdS_x e L 4
      have C := rdFixed br B 4 (by omega) (by omega) e L wr hst
      rw [hr] at hX C
      have hX32 : X < 4294967296 := Nat.lt_of_lt_of_eq hX (by decide)
      have C := Lib.hid C
      have hkl : k < l.of.length := by rw [hG.fits.n]; omega
      have HG' := Lib.hid (hG.step (by omega) hr)
      have HK := Lib.hid (And.intro hR (And.intro hL (And.intro hF hkl)))
      clear hst hR hL hF hG hr hX hkl
      go_wp2_with fail
      refine C.out.mono ?_
      rintro en w6 ⟨rfl, hst6, hfr6⟩
      have hL6 := HK.out.2.1.fr hfr6 (by omega)
      have hc6 := hL6.1.of HK.out.2.2.2
      have hg6 := hL6.2 (2 + k) (by omega)
      have hL7 := hL6.of k X HK.out.2.2.2
      have hR7 := (HK.out.1.fr hfr6 (by omega)).other (a := ⟨w.heap.size + 1, 2 + k, none⟩) (by simp) (.int .u32 (X : Int))
      have hb7 : Below w.heap.size w6 (w6.setCell ⟨w.heap.size + 1, 2 + k, none⟩ (.int .u32 (X : Int))) := (Below.refl _ _).setCell (p := ⟨w.heap.size + 1, 2 + k, none⟩) (by simp) _
      have HF := Lib.hid (And.intro (hst6.keptB (hb7.mono HB.out)) (And.intro hR7 (And.intro hL7 ((HK.out.2.2.1.trans hfr6).thenB hb7))))
      obtain ⟨c0, hc0⟩ : ∃ c0, l.of[k]'HK.out.2.2.2 = c0 := ⟨_, rfl⟩
      rw [hc0] at hc6
      clear hst6 hfr6 hL6 hL7 hR7 hb7 hc0
      go_wp2
      go_roundw
      case rel => exact ⟨k + 1, e', L', _, by omega, by go_num, HF.out.1, HF.out.2.1, HF.out.2.2.1, HF.out.2.2.2, HG'.out⟩
      case measure => simp [intOf]; omega
    · obtain rfl : k = q := by omega
      have CE := Lib.hid (rdErr br B e L wr hst)
      have HK := Lib.hid (And.intro hst (And.intro hR (And.intro hL (And.intro hF hG))))
      clear hst hR hL hF hG
      by_cases hlen : b.length < 16 + 4 * k
      · have he : e = 3 := by
          rcases HK.out.2.2.2.2.e03 with h0 | h0
          · have := (HK.out.2.2.2.2.good h0).1; omega
          · exact h0
        subst he
        have HR : Hid (getR b k = (Ld0, 3)) := by unfold Hid getR; rw [if_pos hlen]
        go_wp2_with fail
        refine CE.out.mono ?_
        rintro en w7 ⟨rfl, rfl⟩
        go_wp2_with (first | (refine wp_ldBuild0 rfl rfl ?_) | (refine wp_ldStore rfl _ _ rfl w.heap.size Ld0 Ld0 rfl rfl Ld0.fits Ld0.fits HK.out.2.1 ?_; intro w9 hB9 hbb hoo))
        refine bodyPost_ret (v := .tuple #[.agg Ld0.cells.toArray, .int .i64 3]) (by simp [results, Tryd.results20, asAddr, ldLoadU hB9.1 Ld0.fits, Ld.val]) rfl ⟨by rw [HR.out], HK.out.2.2.2.1.thenB (hbb _ _ (Nat.le_refl _) (Below.refl _ _)), fun h => by rw [HR.out] at h; cases h⟩
      · have he : e = 0 := HK.out.2.2.2.2.back (by omega)
        subst he
        obtain ⟨-, hLd, hlg⟩ := HK.out.2.2.2.2.good rfl
        have hlf := HK.out.2.2.2.2.fits
        have HLG := Lib.hid (And.intro hLd hlg)
        obtain ⟨TT, hTT⟩ : ∃ TT, totK l 64 = TT := ⟨_, rfl⟩
        have CT := fun (W : Later wr) => ledTotal l hlf W.val
        rw [hTT] at CT
        unfold Ld.val at CT
        have CT := Lib.hid CT
        have hcc : ∀ W : Later wr, W.val.cell? ⟨w.heap.size + 1, 0, none⟩ = some (.int .i64 l.count) := fun W => (HK.out.2.2.1.below W.h).1.count
        have hf1 : ∀ W : Later wr, LdFit W.val (w.heap.size + 1) := fun W => (LdHas.of hlf (HK.out.2.2.1.below W.h).1).fit
        have hf2 : ∀ W : Later wr, ldOf W.val (w.heap.size + 1) = l.cells.toArray := fun W => (LdHas.of hlf (HK.out.2.2.1.below W.h).1).eq
        have HT := Lib.hid hTT
        have HLF := Lib.hid hlf
        clear hLd hlg hTT hlf
        by_cases hneg : l.count < 0
        · have HR : Hid (getR b k = (Ld0, 5)) := by unfold Hid getR; rw [if_neg hlen, if_pos (.inl (by rw [← HLG.out.2]; exact hneg))]
          go_wp2_with fail
          refine CE.out.mono ?_
          rintro en w7 ⟨rfl, rfl⟩
          go_wp2_with fail
          refine wp_region_later (by kernel_rfl) (by kernel_rfl) ?_
          repeat (go_big_quiet_step (exact later_of (CT.out _)))
          refine wpQuiet_nil ?_
          rintro _ ⟨⟨W, hW⟩, rfl⟩
          try dsimp only
          have HW := Lib.hid (And.intro (HK.out.2.1.below hW) (HK.out.2.2.2.1.trans (FrR.ofBelow hW)))
          clear hcc hf1 hf2
          go_wp2_with (first | (refine wp_ldBuild0 rfl rfl ?_) | (refine wp_ldStore rfl _ _ rfl w.heap.size Ld0 Ld0 rfl rfl Ld0.fits Ld0.fits HW.out.1 ?_; intro w9 hB9 hbb hoo))
          refine bodyPost_ret (v := .tuple #[.agg Ld0.cells.toArray, .int .i64 5]) (by simp [results, Tryd.results20, asAddr, ldLoadU hB9.1 Ld0.fits, Ld.val]) rfl ⟨by rw [HR.out], HW.out.2.thenB (hbb _ _ (Nat.le_refl _) (Below.refl _ _)), fun h => by rw [HR.out] at h; cases h⟩
        · have HLA : Hid (∀ w', (∃ W : Later wr, w' = W.val) → LdAt w' (w.heap.size + 1) l) := by
            rintro w' ⟨W, rfl⟩
            exact (HK.out.2.2.1.below W.h).1
          have hdn : decide (l.count < 0) = false := by simpa using hneg
          by_cases hne : l.count = (TT : Int)
          · have HR : Hid (getR b k = (l, 0)) := by
              unfold Hid getR
              rw [if_neg hlen, if_neg (by rw [← HLG.out.2, HT.out]; omega), ← HLG.out.2]
            have hd : (l.count != (TT : Int)) = false := by simp [hne]
            have HNE := Lib.hid hne
            clear hne
            go_wp2_with fail
            refine CE.out.mono ?_
            rintro en w7 ⟨rfl, rfl⟩
            go_wp2_with fail
            refine wp_region_later (by kernel_rfl) (by kernel_rfl) ?_
            repeat (go_big_quiet_step (fail))
            refine BigFrame.wpQuiet_want rfl fun K hK => ?_
            refine quiet_ldLoad _ rfl (w.heap.size + 1) rfl l HLF.out HLA.out ?_
            refine hK _ ?_
            clear hK
            dsimp only [Act.put]
            simp only [List.setIfInBounds_toArray, List.set_cons_succ, List.set_cons_zero]
            repeat (go_big_quiet_step (exact later_of (CT.out _)))
            refine wpQuiet_nil ?_
            rintro _ ⟨⟨W, hW⟩, rfl⟩
            try dsimp only
            have HW := Lib.hid (And.intro (HK.out.2.1.below hW) (And.intro (HK.out.2.2.2.1.trans (FrR.ofBelow hW)) (And.intro (HK.out.1.kept hW) (HK.out.2.2.1.below hW))))
            have hf3 := hf1 ⟨_, hW⟩
            have hf4 := hf2 ⟨_, hW⟩
            dsimp only at hf3 hf4
            clear hcc hf1 hf2
            go_wp2_with (first | (refine wp_ldStore rfl _ _ rfl w.heap.size Ld0 l rfl rfl Ld0.fits HLF.out HW.out.1 ?_; intro w9 hB9 hbb hoo))
            have hb9 := hbb _ _ (Nat.le_refl _) (Below.refl w.heap.size _)
            refine bodyPost_ret (v := .tuple #[.agg l.cells.toArray, .int .i64 0]) (by simp [results, Tryd.results20, asAddr, ldLoadU hB9.1 HLF.out, Ld.val]) rfl ⟨by rw [HR.out], HW.out.2.1.thenB hb9, fun h => by rw [← HLG.out.1]; exact HW.out.2.2.1.keptB (hb9.mono HB.out)⟩
          · have HR : Hid (getR b k = (Ld0, 5)) := by
              unfold Hid getR
              rw [if_neg hlen, if_pos (.inr (by rw [← HLG.out.2, HT.out]; exact hne))]
            have hd : (l.count != (TT : Int)) = true := by simp [hne]
            have HNE := Lib.hid hne
            clear hne
            go_wp2_with fail
            refine CE.out.mono ?_
            rintro en w7 ⟨rfl, rfl⟩
            go_wp2_with fail
            refine wp_region_later (by kernel_rfl) (by kernel_rfl) ?_
            repeat (go_big_quiet_step (fail))
            refine BigFrame.wpQuiet_want rfl fun K hK => ?_
            refine quiet_ldLoad _ rfl (w.heap.size + 1) rfl l HLF.out HLA.out ?_
            refine hK _ ?_
            clear hK
            dsimp only [Act.put]
            simp only [List.setIfInBounds_toArray, List.set_cons_succ, List.set_cons_zero]
            repeat (go_big_quiet_step (exact later_of (CT.out _)))
            refine wpQuiet_nil ?_
            rintro _ ⟨⟨W, hW⟩, rfl⟩
            try dsimp only
            have HW := Lib.hid (And.intro (HK.out.2.1.below hW) (HK.out.2.2.2.1.trans (FrR.ofBelow hW)))
            clear hcc hf1 hf2
            go_wp2_with (first | (refine wp_ldBuild0 rfl rfl ?_) | (refine wp_ldStore rfl _ _ rfl w.heap.size Ld0 Ld0 rfl rfl Ld0.fits Ld0.fits HW.out.1 ?_; intro w9 hB9 hbb hoo))
            refine bodyPost_ret (v := .tuple #[.agg Ld0.cells.toArray, .int .i64 5]) (by simp [results, Tryd.results20, asAddr, ldLoadU hB9.1 Ld0.fits, Ld.val]) rfl ⟨by rw [HR.out], HW.out.2.thenB (hbb _ _ (Nat.le_refl _) (Below.refl _ _)), fun h => by rw [HR.out] at h; cases h⟩
end
end Go.Proofs.YtncmbbkcpmimjaaDoor
