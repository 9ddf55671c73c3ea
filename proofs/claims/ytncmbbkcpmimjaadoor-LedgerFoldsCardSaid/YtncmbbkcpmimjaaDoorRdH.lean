/- LedgerGets: the walk. -/
import Derived.Test.YtncmbbkcpmimjaaDoorRdG
namespace Go.Proofs.YtncmbbkcpmimjaaDoor
open Go.RowKit Law
set_option linter.unusedVariables false

def ReadPost (b : List UInt8) (w : World) (en : Ending) (w' : World) : Prop := ∃ br, en = .returned (.pointer (some ⟨br, 0, none⟩)) ∧ RdSt w' br w'.heap.size 0 b ∧ Below w.heap.size w w' ∧ w.heap.size ≤ br
set_option maxHeartbeats 1600000 in
set_option maxRecDepth 100000 in
theorem bufRead (A : Option Addr) (m c : Nat) (b : List UInt8) (hb : b.length = m) (hm : m ≤ 400) (hnil : A = none → c = 0 ∧ m = 0) (w : World) (hA : U8At w A b) :
    Calls Tryd.prog 19 #[.slice A m c] w (ReadPost b w) := by
  obtain ⟨i0, hi, hz0, hz1, hz2⟩ := info_parts u8Info
  have h00 := World.ownsRow_made (base := w.heap.size) (e := 5) (size := 1) w #[] 0 (Nat.le_refl _) (by simp [maxLen]) rfl
  have hb0 : Below w.heap.size w (w.alloc (.cells #[] 5)) := (Below.refl _ _).alloc (Nat.le_refl _) _
  have hA0 := hA.keep hb0
  have HB := Lib.hid hb
  clear hA hb
  go_enter Tryd.func19, Tryd.ntmps19
  go_wp2_with (at_builtin; refine wpList_append_copy _ rfl _ _ 29 rfl w.heap.size 5 i0 _ 1 1 Tryd.underlying29 hi hz0 hz1 hz2 rfl (by decide) _ _ _ rfl h00 A m c (u8V b) rfl ?c0 ?c1 ?c2 ?c3 ?c4 ?c5 ?c6 ?_)
  case c0 => exact hnil
  case c1 => unfold u8V; rw [List.length_map, HB.out, Nat.mul_one]
  case c2 => exact hA0.flat
  case c3 => exact u8_one
  case c4 => unfold maxLen; omega
  case c5 => omega
  case c6 => simp
  intro v' w2 row hown hgrow hrow
  have hb2 : Below w.heap.size w w2 := hb0.grown hgrow (by simp) hrow
  have hown : w2.ownsRow w.heap.size 5 1 v' m (u8V b) := by simpa using hown
  obtain ⟨A1, c1, rfl, hc1⟩ := (OwnOr.form (.inl hown) : ∃ A c, v' = .slice A m c ∧ m ≤ c)
  have hblk : ∀ ad, A1 = some ad → ad.block < w2.heap.size := fun ad ha => by
    subst ha
    exact (hown.lt ad.block (by rcases hown.2 with ⟨hv, _⟩ | ⟨g, cap, cur, hv, _⟩ <;> (first | cases hv | skip) <;> rfl)).2
  have hA2 : U8At w2 A1 b := ownU8 hown HB.out
  have HF := Lib.hid (And.intro hb2 (And.intro hc1 (And.intro hblk hA2)))
  clear hown hgrow hrow hb2 hc1 hblk hA2 h00 hb0 hA0
  go_wp2
  go_ret
  refine ⟨w2.heap.size, by simp, ⟨by simp, Nat.le_refl _, A1, c1, ⟨by simp, by simp [HB.out], by simp, by simp, by rw [HB.out]; exact HF.out.2.1, fun ad ha => ⟨Nat.ne_of_lt (HF.out.2.2.1 ad ha), by have := HF.out.2.2.1 ad ha; simp; omega⟩, HF.out.2.2.2.keep ((Below.refl _ _).alloc (Nat.le_refl _) _)⟩, fun ad ha => by have := HF.out.2.2.1 ad ha; simp; omega⟩, HF.out.1.alloc HF.out.1.size _, HF.out.1.size⟩
theorem getR_e (b : List UInt8) (q : Nat) : (getR b q).2 = 0 ∨ (getR b q).2 = 3 ∨ (getR b q).2 = 5 := by
  unfold getR
  split
  · exact .inr (.inl rfl)
  · split
    · exact .inr (.inr rfl)
    · exact .inl rfl
theorem rdLeftN (br B : Nat) (L : List UInt8) {n : Nat} (hn : L.length = n) (w : World) (h : RdSt w br B 0 L) : Calls Tryd.prog 22 #[.pointer (some ⟨br, 0, none⟩)] w fun en w' => en = .returned (.int .i64 (n : Int)) ∧ w = w' := rdLeft br B L hn w h
section
attribute [local go_sem ↓] exec_ld
attribute [local go_sem] ptr0_mk ptrB_mk
set_option maxHeartbeats 6400000 in
set_option maxRecDepth 100000 in
theorem walkLGets (len : Nat) (A : Option Addr) (c : Nat) (b0 : List UInt8) (hb0 : b0.length = len) (hc : len ≤ c) (hm : c ≤ maxLen) (hnil : A = none → c = 0) (n : Int) (w : World) (hA : U8At w A b0) (hP : P10 w) (hT : T64 w) :
    Calls Tryd.prog 6 #[.slice A len c, .int .i64 n] w fun en w' => en = .returned (.bool true) ∧ Below w.heap.size w w' := by
  unfold maxLen at hm
  obtain ⟨hz, -⟩ := zero_of_info ldZero
  unfold Ld.val at hz
  obtain ⟨i0, hi, hz0, hz1, hz2⟩ := info_parts u8Info
  obtain ⟨b, hbt⟩ : ∃ b, b0.take 400 = b := ⟨_, rfl⟩
  obtain ⟨m, hbm⟩ : ∃ m, b.length = m := ⟨_, rfl⟩
  have hm400 : m ≤ 400 ∧ m ≤ len := by rw [← hbm, ← hbt, List.length_take]; omega
  have hmin : min (len : Int) 400 = (m : Int) := by rw [← hbm, ← hbt, List.length_take]; omega
  have hAb : U8At w A b := by rw [← hbt]; exact hA.take 400
  have h00 := World.ownsRow_made (base := w.heap.size) (e := 5) (size := 1) w #[] 0 (Nat.le_refl _) (by simp [maxLen]) rfl
  have hbz : Below w.heap.size w (w.alloc (.cells #[] 5)) := (Below.refl _ _).alloc (Nat.le_refl _) _
  have hA0 := hAb.keep hbz
  have hsl := fun W => u8_upto A len c m (by omega) W
  obtain ⟨q, hq⟩ : ∃ q, clampN n = q := ⟨_, rfl⟩
  have hq64 := clampN_le n
  rw [hq] at hq64
  obtain ⟨⟨lR, v⟩, hR⟩ : ∃ r, getR b q = r := ⟨_, rfl⟩
  have hlR : lR.Fits := by have := getR_fits b hq64; rwa [hR] at this
  have hv3 := getR_e b q
  rw [hR] at hv3
  have CR := fun (A1 : Option Addr) (c1 : Nat) (h : A1 = none → c1 = 0 ∧ m = 0) W hU => bufRead A1 m c1 b hbm hm400.1 h W hU
  have CG : ∀ br B W, RdSt W br B 0 b → Calls Tryd.prog 20 #[.pointer (some ⟨br, 0, none⟩), .int .i64 n] W fun en w' => en = .returned (.tuple #[.agg lR.cells.toArray, .int .i64 v]) ∧ FrR br W w' ∧ (v = 0 → RdSt w' br B 0 (b.drop (16 + 4 * q))) := fun br B W h => by
    have := ledGet br B b n W h
    rw [hq, hR] at this
    exact this
  have CF : ∀ (A1 : Option Addr) (c1 : Nat), m ≤ c1 → ∀ W, U8At W A1 b → Calls Tryd.prog 21 #[.slice A1 m c1, .int .i64 n] W (GetPost b q W) := fun A1 c1 h W hU => by
    have := refGet A1 m c1 b hbm h hm400.1 n W hU
    rwa [hq] at this
  have he := run_eqLd lR hlR
  have HE := Lib.hid he
  have H1 := Lib.hid (And.intro hbm (And.intro hP (And.intro hT (And.intro hlR hv3))))
  have HR := Lib.hid hR
  have CR := Lib.hid CR
  have CG := Lib.hid CG
  have CF := Lib.hid CF
  clear hbt hbm hA hAb hq hR hlR hv3 hP hT hb0 he
  go_enter Tryd.func6, Tryd.ntmps6
  go_wp2_with (at_builtin; refine wpList_append_copy _ rfl _ _ 29 rfl w.heap.size 5 i0 _ 1 1 Tryd.underlying29 hi hz0 hz1 hz2 rfl (by decide) _ _ _ rfl h00 A m c (u8V b) rfl ?c0 ?c1 ?c2 ?c3 ?c4 ?c5 ?c6 ?_)
  case c0 => intro hx; have := hnil hx; omega
  case c1 => unfold u8V; rw [List.length_map, H1.out.1]
  case c2 => exact hA0.flat
  case c3 => exact u8_one
  case c4 => unfold maxLen; omega
  case c5 => omega
  intro v' w2 row hown hgrow hrow
  have hb2 : Below w.heap.size w w2 := hbz.grown hgrow (by simp) hrow
  have hown : w2.ownsRow w.heap.size 5 1 v' m (u8V b) := by simpa using hown
  have hnil2 : ∀ A1 c1, v' = .slice A1 m c1 → A1 = none → c1 = 0 ∧ m = 0 := by
    rintro A1 c1 rfl rfl
    rcases hown.2 with ⟨hv, hm0⟩ | ⟨g, cap, cur, hv, _⟩
    · simp only [Value.slice.injEq, true_and] at hv; exact ⟨hv.2, hv.1⟩
    · cases hv
  obtain ⟨A1, c1, rfl, hc1⟩ := (OwnOr.form (.inl hown) : ∃ A c, v' = .slice A m c ∧ m ≤ c)
  have hU2 : U8At w2 A1 b := ownU8 hown H1.out.1
  have hblk : Hid (∀ ad, A1 = some ad → ad.block < w2.heap.size) := fun ad ha => by
    subst ha
    exact (hown.lt ad.block (by rcases hown.2 with ⟨hv, _⟩ | ⟨g, cap, cur, hv, _⟩ <;> (first | cases hv | skip) <;> rfl)).2
  have H2 := Lib.hid (And.intro hb2 (And.intro hU2 (hnil2 A1 c1 rfl)))
  clear hown hgrow hrow hb2 hnil2 hU2 h00 hbz hA0 hsl
  go_wp2_with fail
  refine (CR.out A1 c1 H2.out.2.2 w2 H2.out.2.1).mono ?_
  rintro en w3 ⟨br, rfl, hst3, hb3, hbr⟩
  have H3 := Lib.hid (And.intro hst3 (And.intro (H2.out.1.trans (hb3.mono H2.out.1.size)) (And.intro (Nat.le_trans H2.out.1.size hbr) (And.intro (H2.out.2.1.keep hb3) hst3.lt))))
  have hA1br : Hid (∀ ad, A1 = some ad → ad.block ≠ br) := fun ad ha => Nat.ne_of_lt (Nat.lt_of_lt_of_le (hblk.out ad ha) hbr)
  clear hst3 hb3 hbr
  go_wp2_with fail
  refine (CG.out br _ w3 H3.out.1).mono ?_
  rintro en w4 ⟨rfl, hfr4, hst4⟩
  have H4 := Lib.hid (And.intro hfr4 (And.intro hst4 (LdBox.new w4 Ld0 26)))
  clear hfr4 hst4
  go_wp2_with (first | (refine wp_ldStore rfl _ _ rfl w4.heap.size Ld0 lR rfl rfl Ld0.fits H1.out.2.2.2.1 H4.out.2.2 ?_; intro w5 hB5 hbb hoo))
  have hb5 : Below w4.heap.size w4 w5 := hbb _ _ (Nat.le_refl _) ((Below.refl _ _).alloc (Nat.le_refl _) _)
  have H5 := Lib.hid (And.intro hB5 hb5)
  clear hbb hoo hB5 hb5
  have hU5 : U8At w5 A1 b := (H3.out.2.2.2.1.fr H4.out.1 hA1br.out).keep H5.out.2
  refine (CF.out A1 c1 hc1 w5 hU5).mono ?_
  rintro en w6 ⟨A6, m6, c6, he6, hb6, hm6⟩
  rw [HR.out] at he6 hm6
  subst he6
  have hB6 := H5.out.1.below hb6
  have H6 := Lib.hid (And.intro hB6 (And.intro (LdBox.new w6 Ld0 26) (And.intro hb6 hm6)))
  clear hB6 hb6 hm6 hU5
  rcases H1.out.2.2.2.2 with rfl | rfl | rfl
  · obtain ⟨mL, hmL⟩ : ∃ x, (b.drop (16 + 4 * q)).length = x := ⟨_, rfl⟩
    obtain rfl : m6 = mL := (H6.out.2.2.2 rfl).trans hmL
    have HML := Lib.hid hmL
    clear hmL
    go_wp2_with (first | (refine wp_ldStore rfl _ _ rfl w6.heap.size Ld0 lR rfl rfl Ld0.fits H1.out.2.2.2.1 H6.out.2.1 ?_; intro w7 hB7 hbb hoo; have hb7 : Below w6.heap.size w6 w7 := hbb _ _ (Nat.le_refl _) ((Below.refl _ _).alloc (Nat.le_refl _) _); have hl8 := LdHas.of H1.out.2.2.2.1 hB7.1; have hl9 := LdHas.of H1.out.2.2.2.1 (H6.out.1.below hb7).1; have f1 := hl8.fit; have f2 := hl8.eq; have f3 := hl9.fit; have f4 := hl9.eq; have he := HE.out))
    have hb9 : Below w.heap.size w w7 := ((H3.out.2.1.trans (H4.out.1.below _ H3.out.2.2.1 H3.out.2.1.size)).trans (H5.out.2.mono (Nat.le_trans H3.out.2.1.size H4.out.1.size))).trans ((H6.out.2.2.1.mono (Nat.le_trans (Nat.le_trans H3.out.2.1.size H4.out.1.size) H5.out.2.size)).trans (hb7.mono (Nat.le_trans (Nat.le_trans (Nat.le_trans H3.out.2.1.size H4.out.1.size) H5.out.2.size) H6.out.2.2.1.size)))
    have hst9 := (((H4.out.2.1 (by trivial)).keptB (H5.out.2.mono H4.out.1.size)).keptB (H6.out.2.2.1.mono (Nat.le_trans H4.out.1.size H5.out.2.size))).keptB (hb7.mono (Nat.le_trans (Nat.le_trans H4.out.1.size H5.out.2.size) H6.out.2.2.1.size))
    refine (rdLeftN br _ _ HML.out _ hst9).mono ?_
    rintro en w8 ⟨rfl, rfl⟩
    clear hst9
    go_wp2_with fail
    refine (works37 _ (H1.out.2.1.below hb9) (H1.out.2.2.1.below hb9)).mono ?_
    rintro en w9 ⟨rfl, hb10⟩
    have HF := Lib.hid (hb9.trans (hb10.mono hb9.size))
    clear hb9 hb10 f1 f2 f3 f4 he hl8 hl9 hB7 hb7 hoo hbb
    go_wp2
    go_ret
    exact ⟨rfl, HF.out⟩
  · go_wp2_with (first | (refine wp_ldStore rfl _ _ rfl w6.heap.size Ld0 lR rfl rfl Ld0.fits H1.out.2.2.2.1 H6.out.2.1 ?_; intro w7 hB7 hbb hoo; have hb7 : Below w6.heap.size w6 w7 := hbb _ _ (Nat.le_refl _) ((Below.refl _ _).alloc (Nat.le_refl _) _); have hl8 := LdHas.of H1.out.2.2.2.1 hB7.1; have hl9 := LdHas.of H1.out.2.2.2.1 (H6.out.1.below hb7).1; have f1 := hl8.fit; have f2 := hl8.eq; have f3 := hl9.fit; have f4 := hl9.eq; have he := HE.out))
    have hb9 : Below w.heap.size w w7 := ((H3.out.2.1.trans (H4.out.1.below _ H3.out.2.2.1 H3.out.2.1.size)).trans (H5.out.2.mono (Nat.le_trans H3.out.2.1.size H4.out.1.size))).trans ((H6.out.2.2.1.mono (Nat.le_trans (Nat.le_trans H3.out.2.1.size H4.out.1.size) H5.out.2.size)).trans (hb7.mono (Nat.le_trans (Nat.le_trans (Nat.le_trans H3.out.2.1.size H4.out.1.size) H5.out.2.size) H6.out.2.2.1.size)))
    refine (works37 _ (H1.out.2.1.below hb9) (H1.out.2.2.1.below hb9)).mono ?_
    rintro en w9 ⟨rfl, hb10⟩
    have HF := Lib.hid (hb9.trans (hb10.mono hb9.size))
    clear hb9 hb10 f1 f2 f3 f4 he hl8 hl9 hB7 hb7 hoo hbb
    go_wp2
    go_ret
    exact ⟨rfl, HF.out⟩
  · go_wp2_with (first | (refine wp_ldStore rfl _ _ rfl w6.heap.size Ld0 lR rfl rfl Ld0.fits H1.out.2.2.2.1 H6.out.2.1 ?_; intro w7 hB7 hbb hoo; have hb7 : Below w6.heap.size w6 w7 := hbb _ _ (Nat.le_refl _) ((Below.refl _ _).alloc (Nat.le_refl _) _); have hl8 := LdHas.of H1.out.2.2.2.1 hB7.1; have hl9 := LdHas.of H1.out.2.2.2.1 (H6.out.1.below hb7).1; have f1 := hl8.fit; have f2 := hl8.eq; have f3 := hl9.fit; have f4 := hl9.eq; have he := HE.out))
    have hb9 : Below w.heap.size w w7 := ((H3.out.2.1.trans (H4.out.1.below _ H3.out.2.2.1 H3.out.2.1.size)).trans (H5.out.2.mono (Nat.le_trans H3.out.2.1.size H4.out.1.size))).trans ((H6.out.2.2.1.mono (Nat.le_trans (Nat.le_trans H3.out.2.1.size H4.out.1.size) H5.out.2.size)).trans (hb7.mono (Nat.le_trans (Nat.le_trans (Nat.le_trans H3.out.2.1.size H4.out.1.size) H5.out.2.size) H6.out.2.2.1.size)))
    refine (works37 _ (H1.out.2.1.below hb9) (H1.out.2.2.1.below hb9)).mono ?_
    rintro en w9 ⟨rfl, hb10⟩
    have HF := Lib.hid (hb9.trans (hb10.mono hb9.size))
    clear hb9 hb10 f1 f2 f3 f4 he hl8 hl9 hB7 hb7 hoo hbb
    go_wp2
    go_ret
    exact ⟨rfl, HF.out⟩
end
end Go.Proofs.YtncmbbkcpmimjaaDoor
