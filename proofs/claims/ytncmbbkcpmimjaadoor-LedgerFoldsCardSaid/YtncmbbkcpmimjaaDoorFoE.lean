/- LedgerFolds: the walk. -/
import Derived.Test.YtncmbbkcpmimjaaDoorFoD
import Derived.Test.YtncmbbkcpmimjaaDoorRdH
import Derived.Test.YtncmbbkcpmimjaaDoorBufJ
namespace Go.Proofs.YtncmbbkcpmimjaaDoor
open Go.RowKit Law
set_option linter.unusedVariables false

theorem quiet_ldBuild0 {C : World → Prop} {o : Oper} {a : Act} {K : Act → Prop} (ho : o.op = .build 26 #[]) (hk : K (a.put o.dst (.agg Ld0.cells.toArray))) : o.quiet Tryd.prog a C K :=
  ⟨_, fun w _ => by
    unfold Oper.quietAt execOp
    simp [ho, Sem.run_bind, run_build (P := Tryd.prog) w 26 #[] Ld0.cells.toArray built0, Result.andThen_ok, Sem.run_pure, Oper.quietUpon]
    , hk⟩
theorem rdEnd (br B : Nat) (w : World) (h : RdSt w br B 0 []) : Calls Tryd.prog 26 #[.pointer (some ⟨br, 0, none⟩)] w fun en w' => en = .returned (.int .i64 0) ∧ w = w' := by
  have C2 := Lib.hid (rdErr br B 0 [] w h)
  obtain ⟨-, -, A, c, h, -⟩ := h
  have C : Hid (Calls Tryd.prog 39 #[.pointer (some ⟨br, 0, none⟩)] w fun en w' => en = .returned (.bool true) ∧ w = w') := rdFine br 0 w h.c0
  have h1 : w.cell? ⟨br, 1, none⟩ = some (.slice A 0 c) := h.c1
  clear h
  go_enter Tryd.func26, Tryd.ntmps26
  go_wp2_with fail
  refine C.out.mono ?_
  rintro en w1 ⟨rfl, rfl⟩
  go_wp2_with fail
  refine C2.out.mono ?_
  rintro en w1 ⟨rfl, rfl⟩
  go_wp2
  go_ret
  exact ⟨rfl, rfl⟩
theorem ens_slice_from (A : Option Addr) (n c k : Nat) (hk : k ≤ n) (W : World) : (Instr.slice 55 (.slice A n c) (some (.int .i64 (k : Int))) none none).run Tryd.prog W = .ok (.slice (if c = k then A else A.map (·.add (k * 5))) (n - k) (c - k)) W := by
  have h1 : (0 : Int) ≤ k ∧ (k : Int) ≤ n := by omega
  simp [Instr.slice, Instr.sliceBounds, Instr.sliceBound, asIntOf, run_underlying Tryd.underlying55, Tryd.sizeOf31, h1, hk, go_sem]
theorem ens_slice_upto (A : Option Addr) (n c k : Nat) (hk : k ≤ c) (W : World) : (Instr.slice 55 (.slice A n c) none (some (.int .i64 (k : Int))) none).run Tryd.prog W = .ok (.slice A k c) W := by
  have h1 : (0 : Int) ≤ k ∧ (k : Int) ≤ c := by omega
  simp [Instr.slice, Instr.sliceBounds, Instr.sliceBound, asIntOf, run_underlying Tryd.underlying55, Tryd.sizeOf31, h1, hk, go_sem]
/-- What Cut handed back, as a list of entries. -/
theorem ens_of_own {w : World} {B n c : Nat} {A : Option Addr} {ys : List Et} (h : w.ownsRow B 31 5 (.slice A n c) ys.length (flatE ys)) (hy : ∀ y ∈ ys, (y.Ok ∧ y.n ≤ 60) ∧ y.Own w B) : EnsAt w A ys := by
  intro i y hi
  have hil : i < ys.length := (List.getElem?_eq_some_iff.1 hi).1
  obtain ⟨g, cap, hv, _, _⟩ := h.form (by omega)
  obtain ⟨rfl, _, _⟩ : A = some ⟨g, 0, none⟩ ∧ n = ys.length ∧ c = cap := by simpa using hv
  have hm : y ∈ ys := List.mem_of_getElem? hi
  refine ⟨g, 0, rfl, fun j v hj => ?_, ownU8 (hy y hm).2 (hy y hm).1.1.len⟩
  have := h.cells (g := g) rfl (i * 5 + j) v (flatE_at ys i y hi j v hj)
  rw [Lib.add_plain, Nat.zero_add] at this
  rw [Nat.zero_add]
  exact this
theorem LdBox.belowN {w w' : World} {b B : Nat} {l : Ld} (h : LdBox w b l) (hlt : b < B) (hb : Below B w w') : LdBox w' b l :=
  ⟨h.1.belowN hlt hb, fun j hj => (hb.frozen (p := ⟨b, j, none⟩) hlt).trans (h.2 j hj)⟩
section
attribute [local go_sem ↓] exec_ld
attribute [local go_sem] ptr0_mk ptrB_mk
set_option maxHeartbeats 3200000 in
set_option maxRecDepth 100000 in
theorem walkLFolds (A : Option Addr) (len c : Nat) (xs : List Et) (hl : xs.length = len) (hc : len ≤ c) (hcm : c ≤ maxLen) (hok : ∀ x ∈ xs, x.In) (cut : Nat) (hcut : cut < 256) (w : World) (hA : EnsAt w A xs) (hP : P10 w) (hT : T64 w) :
    Calls Tryd.prog 7 #[.slice A len c, .int .u8 (cut : Int)] w fun en w' => en = .returned (.bool true) ∧ Below w.heap.size w w' := by
  obtain ⟨hz, -⟩ := zero_of_info ldZero
  unfold Ld.val at hz
  have CC := Lib.hid (cut36 A len c xs hl hc hcm hok w hA)
  have HP := Lib.hid (And.intro hP hT)
  clear hl hcm hok hA hP hT
  go_enter Tryd.func7, Tryd.ntmps7
  go_wp2_with fail
  refine CC.out.mono ?_
  rintro en w1 ⟨v, ys, rfl, hown, hb1, hys, hdat⟩
  have hn40 : ys.length ≤ 40 := by
    have := congrArg List.length hdat
    simp only [List.length_map, List.length_take] at this
    omega
  obtain ⟨A1, c1, rfl, hc1⟩ := (OwnOr.form (.inl hown) : ∃ A c, v = .slice A ys.length c ∧ ys.length ≤ c)
  have hE := ens_of_own hown hys
  have hyok : ∀ y ∈ ys, y.Ok ∧ y.n ≤ 60 := fun y hy => (hys y hy).1
  have htot := fold0_tot (ys.map Et.dat) (by rw [List.length_map]; exact hn40)
  have hrf : (foldS Ld0 (ys.map Et.dat)).Fits := foldS_fits _ Ld0.fits
  generalize hn : ys.length = n at hn40 hc1 ⊢
  obtain ⟨k, hk⟩ : ∃ k, min cut n = k := ⟨_, rfl⟩
  have hkn : k ≤ n := by omega
  have hmin : min (cut : Int) (n : Int) = (k : Int) := by omega
  have s1 := fun W => ens_slice_upto A1 n c1 k (by omega) W
  have s2 := fun W => ens_slice_from A1 n c1 k hkn W
  obtain ⟨A2, hA2⟩ : ∃ A2, (if c1 = k then A1 else A1.map (·.add (k * 5))) = A2 := ⟨_, rfl⟩
  have hD : ∀ W, EnsAt W A1 ys → EnsAt W A2 (ys.drop k) := fun W h => by rw [← hA2]; exact h.drop k c1 (by omega)
  simp only [hA2] at s2
  obtain ⟨m2, hm2⟩ : ∃ m2, n - k = m2 := ⟨_, rfl⟩
  obtain ⟨c2, hc2⟩ : ∃ c2, c1 - k = c2 := ⟨_, rfl⟩
  simp only [hm2, hc2] at s2
  have hparts := foldS_parts Ld0 (ys.map Et.dat) k
  obtain ⟨r, hr⟩ : ∃ r, foldS Ld0 (ys.map Et.dat) = r := ⟨_, rfl⟩
  obtain ⟨r1, hr1⟩ : ∃ r1, foldS Ld0 ((ys.map Et.dat).take k) = r1 := ⟨_, rfl⟩
  have hr1f : r1.Fits := by rw [← hr1]; exact foldS_fits _ Ld0.fits
  rw [hr, hr1] at hparts
  rw [hr] at htot hrf
  have D1 := fun (W : World) (h : EnsAt W A1 ys) => ledFold Ld0 Ld0.fits A1 n c1 ys hn hn40 hyok hr W h
  have D2 := fun (W : World) (h : EnsAt W A1 ys) => refFold Ld0 Ld0.fits A1 n c1 ys hn hn40 hyok hr W h
  have D3 := fun (W : World) (h : EnsAt W A1 ys) => ledFold Ld0 Ld0.fits A1 k c1 (ys.take k) (by rw [List.length_take, hn]; omega) (by omega) (fun y hy => hyok y (List.mem_of_mem_take hy)) (r := r1) (by rw [List.map_take]; exact hr1) W (h.take k)
  have D4 := fun (W : World) (h : EnsAt W A1 ys) => ledFold r1 hr1f A2 m2 c2 (ys.drop k) (by rw [List.length_drop, hn]; exact hm2) (by omega) (fun y hy => hyok y (List.mem_of_mem_drop hy)) (r := r) (by rw [List.map_drop]; exact hparts) W (hD W h)
  have H1 := Lib.hid (And.intro hb1 (And.intro hE (And.intro htot hrf)))
  have D1 := Lib.hid D1
  have D2 := Lib.hid D2
  have D3 := Lib.hid D3
  have D4 := Lib.hid D4
  clear hown hb1 hys hdat hE hyok hn htot hrf hk hA2 hD hm2 hc2 hparts hr hr1 hr1f
  go_wp2_with (refine wp_ldBuild0 rfl rfl ?_)
  refine (D1.out _ H1.out.2.1).mono ?_
  rintro en w2 ⟨rfl, hb2⟩
  have HB2 := Lib.hid (And.intro (LdBox.new w2 Ld0 26) hb2)
  clear hb2
  go_wp2_with (first | (refine wp_ldStore rfl _ _ rfl w2.heap.size Ld0 r rfl rfl Ld0.fits H1.out.2.2.2 HB2.out.1 ?_; intro w3 hB3 hbb hoo; have hb3 : Below w2.heap.size w2 w3 := hbb _ _ (Nat.le_refl _) ((Below.refl _ _).alloc (Nat.le_refl _) _); have H4 := Lib.hid (And.intro hB3 (And.intro (HB2.out.2.trans (hb3.mono HB2.out.2.size)) (And.intro hb3 H1.out.2.2.2))); clear hB3 hbb hoo hb3))
  have HLA : Hid (∀ w', (∃ W : Later w3, w' = W.val) → LdAt w' w2.heap.size r) := by
    rintro w' ⟨W, rfl⟩
    exact (H4.out.1.below W.h).1
  have HE3 := Lib.hid (H1.out.2.1.keep H4.out.2.1)
  have E2 := Lib.hid (fun (W : Later w3) => D2.out W.val (HE3.out.keep W.h))
  have E3 := Lib.hid (fun (W : Later w3) => D3.out W.val (HE3.out.keep W.h))
  have E4 := Lib.hid (fun (W : Later w3) => D4.out W.val (HE3.out.keep W.h))
  have hrne := run_neLd r H1.out.2.2.2
  obtain ⟨TT, hTT⟩ : ∃ TT, totK r 64 = TT := ⟨_, rfl⟩
  have E5 := fun (W : Later w3) => ledTotal r H1.out.2.2.2 W.val
  rw [hTT] at E5
  unfold Ld.val at E5
  have E5 := Lib.hid E5
  have hcc : ∀ W : Later w3, W.val.cell? ⟨w2.heap.size, 0, none⟩ = some (.int .i64 r.count) := fun W => (H4.out.1.below W.h).1.count
  have hceq : r.count = (TT : Int) := by rw [← hTT]; exact H1.out.2.2.1.1
  have hd : (r.count != (TT : Int)) = false := by simp [hceq]
  have HCE := Lib.hid (And.intro hTT hceq)
  obtain ⟨T, hT0⟩ : ∃ T, putK r 64 = T := ⟨_, rfl⟩
  have hTl : T.length = 272 := by rw [← hT0, putK_len]
  have hgr : getR T 64 = (r, 0) := by rw [← hT0]; exact getR_putK H1.out.2.2.2 H1.out.2.2.1.2 H1.out.2.2.1.1
  have CP : Hid (∀ bw base v W, WrSt W bw base [] v → Calls Tryd.prog 14 #[.pointer (some ⟨bw, 0, none⟩), .agg r.cells.toArray, .int .i64 64] W fun e w' => e = .returned (.tuple #[]) ∧ ∃ v', WrSt w' bw base T v' ∧ Below bw W w') := fun bw base v W h => by
    have := ledPut bw base v r H1.out.2.2.2 64 W h
    rw [show clampN 64 = 64 from rfl, hT0] at this
    exact this
  have CR : Hid (∀ g c W, U8At W (some ⟨g, 0, none⟩) T → Calls Tryd.prog 19 #[.slice (some ⟨g, 0, none⟩) 272 c] W (ReadPost T W)) := fun g c W hU => bufRead _ 272 c T hTl (by omega) (fun h => by cases h) W hU
  have CG : Hid (∀ br B W, RdSt W br B 0 T → Calls Tryd.prog 20 #[.pointer (some ⟨br, 0, none⟩), .int .i64 64] W fun en w' => en = .returned (.tuple #[.agg r.cells.toArray, .int .i64 0]) ∧ FrR br W w' ∧ RdSt w' br B 0 []) := fun br B W h =>
    (ledGet br B T 64 W h).mono fun en w' ⟨h1, h2, h3⟩ => by
      rw [show clampN 64 = 64 from rfl, hgr] at h1 h3
      refine ⟨h1, h2, ?_⟩
      have := h3 rfl
      rwa [List.drop_of_length_le (by omega)] at this
  have HTL := Lib.hid (And.intro hTl hgr)
  clear hT0 hTl hgr
  clear hTT hceq
  refine wp_region_later (by kernel_rfl) (by kernel_rfl) ?_
  refine BigFrame.wpQuiet_want rfl fun K hK => ?_
  refine quiet_ldLoad _ rfl w2.heap.size rfl r H4.out.2.2.2 HLA.out ?_
  refine hK _ ?_
  clear hK
  dsimp only [Act.put]
  simp only [List.setIfInBounds_toArray, List.set_cons_succ, List.set_cons_zero]
  refine BigFrame.wpQuiet_want rfl fun K hK => ?_
  refine quiet_ldBuild0 rfl ?_
  refine hK _ ?_
  clear hK
  dsimp only [Act.put]
  simp only [List.setIfInBounds_toArray, List.set_cons_succ, List.set_cons_zero]
  repeat (go_big_quiet_step (fail))
  go_big_quiet_step (exact later_of (E2.out _))
  repeat (go_big_quiet_step (fail))
  refine BigFrame.wpQuiet_want rfl fun K hK => ?_
  refine quiet_ldLoad _ rfl w2.heap.size rfl r H4.out.2.2.2 HLA.out ?_
  refine hK _ ?_
  clear hK
  dsimp only [Act.put]
  simp only [List.setIfInBounds_toArray, List.set_cons_succ, List.set_cons_zero]
  refine BigFrame.wpQuiet_want rfl fun K hK => ?_
  refine quiet_ldBuild0 rfl ?_
  refine hK _ ?_
  clear hK
  dsimp only [Act.put]
  simp only [List.setIfInBounds_toArray, List.set_cons_succ, List.set_cons_zero]
  repeat (go_big_quiet_step (fail))
  go_big_quiet_step (exact later_of (E3.out _))
  repeat (go_big_quiet_step (fail))
  go_big_quiet_step (exact later_of (E4.out _))
  repeat (go_big_quiet_step (fail))
  refine BigFrame.wpQuiet_want rfl fun K hK => ?_
  refine quiet_ldLoad _ rfl w2.heap.size rfl r H4.out.2.2.2 HLA.out ?_
  refine hK _ ?_
  clear hK
  dsimp only [Act.put]
  simp only [List.setIfInBounds_toArray, List.set_cons_succ, List.set_cons_zero]
  go_big_quiet_step (exact later_of (E5.out _))
  repeat (go_big_quiet_step (fail))
  refine wpQuiet_nil ?_
  rintro W5 ⟨⟨_, hW5⟩, rfl⟩
  try dsimp only
  have H5 := Lib.hid (And.intro (H4.out.1.below hW5) (H4.out.2.1.trans (hW5.mono H4.out.2.1.size)))
  clear hcc s1 s2 hd hrne
  go_wp2_with fail
  refine (bufNew _).mono ?_
  rintro en w6 ⟨rfl, rfl⟩
  have hb6 : Below W5.heap.size W5 (W5.alloc (.cells #[.int .i64 0, .slice none 0 0, .int .i64 400] 74)) := (Below.refl _ _).alloc (Nat.le_refl _) _
  have hL6 := H5.out.1.below hb6
  have hld6 := LdHas.of H4.out.2.2.2 hL6.1
  have f1 := hld6.fit
  have f2 := hld6.eq
  have H6 := Lib.hid (And.intro hL6 (And.intro (H5.out.2.trans (hb6.mono H5.out.2.size)) (And.intro (WrSt.new W5) H5.out.1.1.lt)))
  clear hb6 hL6 hld6
  go_wp2_with fail
  refine (CP.out _ _ _ _ H6.out.2.2.1).mono ?_
  rintro en w7 ⟨rfl, v7, hw7, hb7⟩
  have HW7 := Lib.hid (And.intro hw7 (And.intro (H6.out.1.belowN H6.out.2.2.2 hb7) (H6.out.2.1.trans (hb7.mono H5.out.2.size))))
  clear hw7 hb7 f1 f2
  go_wp2_with fail
  refine (wrDone _ _ T v7 w7 HW7.out.1 (by rw [HTL.out.1]; decide)).mono ?_
  rintro en w8 ⟨v8, rfl, hown8, hb8⟩
  rw [HTL.out.1] at hown8
  obtain ⟨g8, c8, rfl, -, -⟩ := hown8.form (by decide)
  have hU8 : U8At w8 (some ⟨g8, 0, none⟩) T := ownU8 hown8 HTL.out.1
  have H8 := Lib.hid (And.intro hU8 (And.intro (HW7.out.2.1.below hb8) (HW7.out.2.2.trans (hb8.mono HW7.out.2.2.size))))
  clear hown8 hb8 hU8
  go_wp2_with fail
  refine (CR.out _ _ _ H8.out.1).mono ?_
  rintro en w9 ⟨br, rfl, hst9, hb9, hbr⟩
  have hlt8 := H8.out.2.1.1.lt
  have H9 := Lib.hid (And.intro hst9 (And.intro (H8.out.2.1.below hb9) (And.intro (H8.out.2.2.trans (hb9.mono H8.out.2.2.size)) (And.intro (Nat.ne_of_lt (Nat.lt_of_lt_of_le hlt8 hbr)) (Nat.le_trans H8.out.2.2.size hbr)))))
  clear hst9 hb9 hbr hlt8
  go_wp2_with fail
  refine (CG.out br _ w9 H9.out.1).mono ?_
  rintro en w10 ⟨rfl, hfr10, hst10⟩
  have H10 := Lib.hid (And.intro (H9.out.2.1.fr hfr10 H9.out.2.2.2.1) (And.intro (H9.out.2.2.1.trans (hfr10.below _ H9.out.2.2.2.2 H9.out.2.2.1.size)) (And.intro hst10 (And.intro (LdBox.new w10 Ld0 26) hfr10.size))))
  clear hfr10 hst10
  have heq := run_eqLd r H4.out.2.2.2
  go_wp2_with (first | (refine wp_ldStore rfl _ _ rfl w10.heap.size Ld0 r rfl rfl Ld0.fits H4.out.2.2.2 H10.out.2.2.2.1 ?_; intro w11 hB11 hbb hoo; have hb11 : Below w10.heap.size w10 w11 := hbb _ _ (Nat.le_refl _) ((Below.refl _ _).alloc (Nat.le_refl _) _); have hl11 := LdHas.of H4.out.2.2.2 hB11.1; have hl12 := LdHas.of H4.out.2.2.2 (H10.out.1.below hb11).1; have f1 := hl11.fit; have f2 := hl11.eq; have f3 := hl12.fit; have f4 := hl12.eq; have hst11 := Lib.hid (And.intro (H10.out.2.2.1.keptB (hb11.mono H10.out.2.2.2.2)) (H1.out.1.trans ((H10.out.2.1.trans (hb11.mono H10.out.2.1.size)).mono H1.out.1.size)))))
  refine (rdEnd br _ w11 hst11.out.1).mono ?_
  rintro en w12 ⟨rfl, rfl⟩
  clear hB11 hbb hoo hb11 hl11 hl12 f1 f2 f3 f4 heq
  go_wp2_with fail
  refine (works37 _ (HP.out.1.below hst11.out.2) (HP.out.2.below hst11.out.2)).mono ?_
  rintro en w13 ⟨rfl, hb13⟩
  have HF := Lib.hid (hst11.out.2.trans (hb13.mono hst11.out.2.size))
  clear hb13
  go_wp2
  go_ret
  exact ⟨rfl, HF.out⟩
end
end Go.Proofs.YtncmbbkcpmimjaaDoor
