/- The reference's list with one more; two lists of keys compared. -/
import Derived.Test.YtlkajpmfcibagaaDoorKeySs
namespace Go.Proofs.YtlkajpmfcibagaaDoor
open Go.RowKit Law
set_option linter.unusedVariables false

theorem flatK_snoc (es : List K) (e : K) : flatK (es ++ [e]) = flatK es ++ e.cells.toList := by simp [flatK]
theorem kcells_one (x : K) : ∀ u ∈ x.cells.toList, u.oneCell' = true := by
  intro u hu
  simp [K.cells] at hu
  rcases hu with rfl | rfl | rfl <;> rfl
theorem later_cells {w : World} {b o : Nat} {x : K} (h : w.cell? ⟨b, o, none⟩ = some (.int .i64 x.t) ∧ w.cell? ⟨b, o + 1, none⟩ = some (.int .i64 x.f) ∧ w.cell? ⟨b, o + 2, none⟩ = some (.int .u32 x.s)) (W : Later w) :
    W.val.cell? ⟨b, o, none⟩ = some (.int .i64 x.t) ∧ W.val.cell? ⟨b, o + 1, none⟩ = some (.int .i64 x.f) ∧ W.val.cell? ⟨b, o + 2, none⟩ = some (.int .u32 x.s) := by
  have hl := World.block_lt_of_cell? _ _ h.1
  exact ⟨(W.h.cell (p := ⟨b, o, none⟩) hl).trans h.1, (W.h.cell (p := ⟨b, o + 1, none⟩) hl).trans h.2.1, (W.h.cell (p := ⟨b, o + 2, none⟩) hl).trans h.2.2⟩
def IntoK (ks : List K) (x : K) (w : World) (e : Ending) (w' : World) : Prop :=
  ∃ A c, e = .returned (.slice A (intoK ks x).length c) ∧ KeyAt w' A (intoK ks x) ∧ Below w.heap.size w w'
set_option maxHeartbeats 3200000 in
set_option maxRecDepth 100000 in
theorem refInto {n : Nat} (A : Option Addr) (c : Nat) (ks : List K) (hn : ks.length = n) (x : K) (hm : n ≤ 1000000) (w : World) (hA : KeyAt w A ks) :
    Calls Tryd.prog 22 #[.slice A n c, .agg #[.int .i64 x.t, .int .i64 x.f, .int .u32 x.s]] w (IntoK ks x w) := by
  have HN := Lib.hid hn
  obtain ⟨i0, hi, hz0, hz1, hz2⟩ := info_parts keyInfo
  have hb0 : Below w.heap.size w (w.alloc (.cells #[.int .i64 x.t, .int .i64 x.f, .int .u32 x.s] 24)) := (Below.refl _ w).alloc (Nat.le_refl _) _
  have HX0 := Lib.hid (KBox.new w x 24)
  have HB0 := Lib.hid hb0
  obtain ⟨r, hr⟩ : ∃ r, inK ks x = r := ⟨_, rfl⟩
  have HR := Lib.hid hr
  have C1 := Lib.hid (refInB A c ks hn x hm hr (w.alloc (.cells #[.int .i64 x.t, .int .i64 x.f, .int .u32 x.s] 24)) (hA.below hb0))
  clear hn hr hb0
  go_enter Tryd.func22, Tryd.ntmps22
  go_wp2_with fail
  refine C1.out.mono ?_
  rintro e w2 ⟨rfl, hb2⟩
  have HX2 := Lib.hid (HX0.out.below hb2)
  have HB2 := Lib.hid (HB0.out.trans (hb2.mono HB0.out.size))
  have hs2 : w.heap.size < w2.heap.size := by have := hb2.size; simp at this; omega
  have hA2 := hA.below HB2.out
  clear hb2
  cases r
  · have H00 := Lib.hid (World.ownsRow_made (base := w2.heap.size) (e := 24) (size := 3) w2 #[] 0 (Nat.le_refl _) (by simp [maxLen]) rfl)
    go_wp2
    go_loopw [5, 6, 7] (fun v inn i wr => ∃ k : Nat, k ≤ n ∧ i = .int .i64 k ∧ inn = .bool (insTo ks x k).2 ∧ wr.ownsRow w2.heap.size 24 3 v (insTo ks x k).1.length (flatK (insTo ks x k).1) ∧ Below w2.heap.size w2 wr) (fun _ _ i _ => n - (intOf i).toNat)
    case atStart => exact ⟨0, Nat.zero_le _, rfl, rfl, by simpa [insTo, flatK] using H00.out, (Below.refl _ _).alloc (Nat.le_refl _) _⟩
    case round =>
      obtain ⟨k, hk, rfl, rfl, hown, hb⟩ := hrel
      have hil : (insTo ks x k).1.length ≤ k + 1 := by have := insTo_len ks x k; split at this <;> omega
      obtain ⟨p, hp⟩ : ∃ p, insTo ks x k = p := ⟨_, rfl⟩
      obtain ⟨l, bb⟩ := p
      rw [hp] at hown hil ⊢
      have HP := Lib.hid hp
      clear hp
      by_cases hlt : k < n
      · have hlt' : k < ks.length := by rw [HN.out]; exact hlt
        obtain ⟨b, off, rfl, hcs⟩ := hA2.at_ hb hlt'
        have hp := later_cells hcs
        have hbs := hb.size
        have HO := Lib.hid (And.intro hown hb)
        clear hown hb hcs
        cases bb
        · have hbx := HX2.out.below HO.out.2
          have hxc := later_cells (o := 0) hbx.1
          simp only [Nat.zero_add] at hxc
          clear hbx
          cases hq : lessK x ks[k]
          · have C := Lib.hid (fun W : Later wr => refLessB (a := x) (b := ks[k]) hq W.val)
            have HS := Lib.hid (insTo_miss hlt' (by rw [HP.out]) hq)
            rw [HP.out] at HS
            clear hq
            go_wp2_with fail
            refine wp_region_later (by kernel_rfl) (by kernel_rfl) ?_
            repeat (go_big_quiet_step (exact later_of (C.out _)))
            refine wpQuiet_nil ?_
            rintro W2 ⟨⟨Wx, hW⟩, rfl⟩
            have hk2 := hp ⟨W2, hW⟩
            have hown2 := ownsRow_kept HO.out.1 hW
            have hb2 := HO.out.2.trans (hW.mono hbs)
            have hs2' := hb2.size
            dsimp only at hk2
            clear hp hxc
            go_wp2_with (at_builtin; refine wpList_append_own _ rfl _ _ 35 rfl w2.heap.size 24 i0 _ 3 24 Tryd.underlying35 hi hz0 hz1 hz2 rfl (by decide) _ _ _ rfl (hown2.alloc _) ⟨W2.heap.size, 0, none⟩ 1 1 ks[k].cells.toList rfl rfl ?c1 ?c2 ?c3 ?c4 ?c5 ?_)
            case c1 =>
              intro j u hj
              first
                | (rw [Lib.add_plain, World.cell?_alloc_at _ _ _ _ (by simp)]
                   simpa [K.cells] using hj)
                | simpa [K.cells] using hj
            case c2 =>
              intro u hu
              simp [K.cells] at hu
              rcases hu with rfl | rfl | rfl <;> rfl
            case c3 => unfold maxLen; omega
            case c4 => omega
            case c5 => have := hb2.size; simp; omega
            intro v' w5 hown3 hgrow _
            have hb3 : Below w2.heap.size w2 w5 := (hb2.alloc hb2.size _).grown hgrow (by have := hb2.size; simp; omega) (fun j hj => (hown2.lt j hj).1)
            clear hk2
            go_wp2
            go_roundw
            case rel => exact ⟨k + 1, by omega, by go_num, by rw [HS.out], by rw [HS.out, List.length_append, flatK_snoc]; exact hown3, hb3⟩
            case measure => simp [intOf]; omega
          · have C := Lib.hid (fun W : Later wr => refLessB (a := x) (b := ks[k]) hq W.val)
            have HS := Lib.hid (insTo_hit hlt' (by rw [HP.out]) hq)
            rw [HP.out] at HS
            clear hq
            go_wp2_with fail
            refine wp_region_later (by kernel_rfl) (by kernel_rfl) ?_
            repeat (go_big_quiet_step (exact later_of (C.out _)))
            refine wpQuiet_nil ?_
            rintro W2 ⟨⟨Wx, hW⟩, rfl⟩
            have hk2 := hp ⟨W2, hW⟩
            have hown2 := ownsRow_kept HO.out.1 hW
            have hb2 := HO.out.2.trans (hW.mono hbs)
            have hs2' := hb2.size
            dsimp only at hk2
            have hx2 := hxc ⟨W2, hW⟩
            dsimp only at hx2
            have HK2 := Lib.hid hk2
            clear hp hxc hk2
            go_wp2_with (at_builtin; refine wpList_append_own _ rfl _ _ 35 rfl w2.heap.size 24 i0 _ 3 24 Tryd.underlying35 hi hz0 hz1 hz2 rfl (by decide) _ _ _ rfl (hown2.alloc _) ⟨W2.heap.size, 0, none⟩ 1 1 x.cells.toList rfl rfl ?c1 ?c2 ?c3 ?c4 ?c5 ?_)
            case c1 =>
              intro j u hj
              first
                | (rw [Lib.add_plain, World.cell?_alloc_at _ _ _ _ (by simp)]
                   simpa [K.cells] using hj)
                | simpa [K.cells] using hj
            case c2 =>
              intro u hu
              simp [K.cells] at hu
              rcases hu with rfl | rfl | rfl <;> rfl
            case c3 => unfold maxLen; omega
            case c4 => omega
            case c5 => have := hb2.size; simp; omega
            intro v5 w5 hown3 hgrow _
            have hgz : Below W2.heap.size W2 (W2.alloc (.cells #[.int .i64 x.t, .int .i64 x.f, .int .u32 x.s] 24)) := (Below.refl _ _).alloc (Nat.le_refl _) _
            have hb3 : Below w2.heap.size w2 w5 := (hb2.alloc hb2.size _).grown hgrow (by have := hb2.size; simp; omega) (fun j hj => (hown2.lt j hj).1)
            have hs3' := hb3.size
            have hk2 := hA2.at_ hb3 hlt'
            obtain ⟨b', off', hA', hk2⟩ := hk2
            injection hA' with hA'
            injection hA' with h1 h2 _
            subst h1 h2
            clear hx2
            go_wp2_with (at_builtin; refine wpList_append_own _ rfl _ _ 35 rfl w2.heap.size 24 i0 _ 3 24 Tryd.underlying35 hi hz0 hz1 hz2 rfl (by decide) _ _ _ rfl (hown3.alloc _) ⟨w5.heap.size, 0, none⟩ 1 1 ks[k].cells.toList rfl rfl ?d1 ?d2 ?d3 ?d4 ?d5 ?_)
            case d1 =>
              intro j u hj
              first
                | (rw [Lib.add_plain, World.cell?_alloc_at _ _ _ _ (by simp)]
                   simpa [K.cells] using hj)
                | simpa [K.cells] using hj
            case d2 =>
              intro u hu
              simp [K.cells] at hu
              rcases hu with rfl | rfl | rfl <;> rfl
            case d3 => unfold maxLen; omega
            case d4 => omega
            case d5 => have := hb3.size; simp; omega
            intro v6 w6 hown4 hgrow _
            have hb4 : Below w2.heap.size w2 w6 := (hb3.alloc hb3.size _).grown hgrow (by have := hb3.size; simp; omega) (fun j hj => (hown3.lt j hj).1)
            clear hk2
            go_wp2
            go_roundw
            case rel => exact ⟨k + 1, by omega, by go_num, by rw [HS.out], by rw [HS.out, flatK_snoc, flatK_snoc]; simpa using hown4, hb4⟩
            case measure => simp [intOf]; omega
        · have HS := Lib.hid (insTo_in hlt' (by rw [HP.out]))
          rw [HP.out] at HS
          go_wp2_with fail
          refine wp_region_later (by kernel_rfl) (by kernel_rfl) ?_
          repeat (go_big_quiet_step (fail))
          refine wpQuiet_nil ?_
          rintro W2 ⟨⟨Wx, hW⟩, rfl⟩
          have hk2 := hp ⟨W2, hW⟩
          have hown2 := ownsRow_kept HO.out.1 hW
          have hb2 := HO.out.2.trans (hW.mono hbs)
          have hs2' := hb2.size
          dsimp only at hk2
          clear hp
          go_wp2_with (at_builtin; refine wpList_append_own _ rfl _ _ 35 rfl w2.heap.size 24 i0 _ 3 24 Tryd.underlying35 hi hz0 hz1 hz2 rfl (by decide) _ _ _ rfl (hown2.alloc _) ⟨W2.heap.size, 0, none⟩ 1 1 ks[k].cells.toList rfl rfl ?c1 ?c2 ?c3 ?c4 ?c5 ?_)
          case c1 =>
            intro j u hj
            first
              | (rw [Lib.add_plain, World.cell?_alloc_at _ _ _ _ (by simp)]
                 simpa [K.cells] using hj)
              | simpa [K.cells] using hj
          case c2 =>
            intro u hu
            simp [K.cells] at hu
            rcases hu with rfl | rfl | rfl <;> rfl
          case c3 => unfold maxLen; omega
          case c4 => omega
          case c5 => have := hb2.size; simp; omega
          intro v' w5 hown3 hgrow _
          have hb3 : Below w2.heap.size w2 w5 := (hb2.alloc hb2.size _).grown hgrow (by have := hb2.size; simp; omega) (fun j hj => (hown2.lt j hj).1)
          clear hk2
          go_wp2
          go_roundw
          case rel => exact ⟨k + 1, by omega, by go_num, by rw [HS.out], by rw [HS.out, List.length_append, flatK_snoc]; exact hown3, hb3⟩
          case measure => simp [intOf]; omega
      · obtain rfl : k = n := by omega
        have HKN : Hid (ks.length = k) := HN.out
        cases bb
        · have hxc := (HX2.out.below hb).1
          have HI : Hid (intoK ks x = l ++ [x]) := by
            unfold Hid intoK
            rw [HR.out, HN.out, HP.out]
            rfl
          have hbs := hb.size
          go_wp2_with (at_builtin; refine wpList_append_own _ rfl _ _ 35 rfl w2.heap.size 24 i0 _ 3 24 Tryd.underlying35 hi hz0 hz1 hz2 rfl (by decide) _ _ _ rfl (hown.alloc _) ⟨wr.heap.size, 0, none⟩ 1 1 x.cells.toList rfl rfl ?c1 ?c2 ?c3 ?c4 ?c5 ?_)
          case c1 =>
            intro j u hj
            first
              | (rw [Lib.add_plain, World.cell?_alloc_at _ _ _ _ (by simp)]
                 simpa [K.cells] using hj)
              | simpa [K.cells] using hj
          case c2 =>
            intro u hu
            simp [K.cells] at hu
            rcases hu with rfl | rfl | rfl <;> rfl
          case c3 => unfold maxLen; omega
          case c4 => omega
          case c5 => have := hb.size; simp; omega
          intro v5 w5 hown3 hgrow _
          have hb3 : Below w2.heap.size w2 w5 := (hb.alloc hb.size _).grown hgrow (by have := hb.size; simp; omega) (fun j hj => (hown.lt j hj).1)
          clear hxc
          have hgl : (l ++ [x]).length = l.length + 1 := by simp
          have hown4 : w5.ownsRow w2.heap.size 24 3 v5 (l ++ [x]).length (flatK (l ++ [x])) := by rw [hgl, flatK_snoc]; exact hown3
          obtain ⟨A5, c5, hv5, -⟩ := (OwnOr.form (.inl hown4) : ∃ A c, v5 = .slice A (l ++ [x]).length c ∧ (l ++ [x]).length ≤ c)
          subst hv5
          have HF := Lib.hid (And.intro hown4 hb3)
          clear hown3 hown4 hb3 hgrow
          go_wp2
          go_ret
          exact ⟨A5, c5, by rw [HI.out] <;> rfl, by rw [HI.out]; exact ownKeys HF.out.1 rfl, HB2.out.trans (HF.out.2.mono (Nat.le_of_lt hs2))⟩
        · have HI : Hid (intoK ks x = l) := by
            unfold Hid intoK
            rw [HR.out, HN.out, HP.out]
            rfl
          obtain ⟨A5, c5, hv5, -⟩ := OwnOr.form (.inl hown)
          subst hv5
          have HF := Lib.hid (And.intro hown hb)
          clear hown hb
          go_wp2
          go_ret
          exact ⟨A5, c5, by rw [HI.out] <;> rfl, by rw [HI.out]; exact ownKeys HF.out.1 rfl, HB2.out.trans (HF.out.2.mono (Nat.le_of_lt hs2))⟩
  · have HI : Hid (intoK ks x = ks) := by
      unfold Hid intoK
      rw [HR.out]
      rfl
    go_wp2
    go_ret
    exact ⟨A, c, by rw [HI.out, HN.out] <;> rfl, by rw [HI.out]; exact hA2, HB2.out⟩
end Go.Proofs.YtlkajpmfcibagaaDoor
