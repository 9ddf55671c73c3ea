/- KeyWhole: the walk. -/
import Derived.Test.YtlkajpmfcibagaaDoorKeySv
import Derived.Test.YtlkajpmfcibagaaDoorKeyTv
namespace Go.Proofs.YtlkajpmfcibagaaDoor
open Go.RowKit Law
set_option linter.unusedVariables false

set_option maxHeartbeats 6400000 in
set_option maxRecDepth 100000 in
theorem walkWhole (len n : Nat) (A : Option Addr) (c : Nat) (ks : List K) (hn : ks.length = n) (hmin : min (len : Int) 40 = (n : Int)) (hc : len ≤ c) (hm : c ≤ maxLen) (hnil : A = none → c = 0) (w : World) (hfit : ∀ k ∈ ks, k.Fits) (hA : KeyAt w A ks) (h : P10 w) :
    Calls Tryd.prog 8 #[.slice A len c] w fun e w' => e = .returned (.bool true) ∧ Below w.heap.size w w' := by
  unfold maxLen at hm
  have hn40 : n ≤ 40 := by omega
  have hmax : max (n : Int) 0 = (n : Int) := by omega
  have HN := Lib.hid hn
  have HP := Lib.hid h
  obtain ⟨i0, hi, hz0, hz1, hz2⟩ := info_parts keyInfo
  have h00 := World.ownsRow_made (base := w.heap.size) (e := 24) (size := 3) w #[] 0 (Nat.le_refl _) (by simp [maxLen]) rfl
  have hb0 : Below w.heap.size w (w.alloc (.cells #[] 24)) := (Below.refl _ _).alloc (Nat.le_refl _) _
  have hA0 := hA.below hb0
  clear h hn
  go_enter Tryd.func8, Tryd.ntmps8
  go_wp2_with (at_builtin; refine wpList_append_copy2 _ rfl _ _ 35 rfl w.heap.size 24 i0 _ 3 24 Tryd.underlying35 hi hz0 hz1 hz2 rfl (by decide) _ _ _ rfl h00 A n c (flatK ks) rfl ?c0 ?c1 ?c2 ?c3 ?c4 ?c5 ?c6 ?_)
  case c0 => intro hx; have := hnil hx; omega
  case c1 => rw [flatK_len, HN.out]
  case c2 => exact hA0.flat
  case c3 => exact fun u hu => flatK_one hu
  case c4 => unfold maxLen; omega
  case c5 => omega
  case c6 => simp
  intro v' w1 row hown hgrow hrow hne
  have hb1 : Below w.heap.size w w1 := hb0.grown hgrow (by simp) hrow
  obtain ⟨g, cap, hv⟩ : ∃ g cap, v' = .slice (some ⟨g, 0, none⟩) n cap := by
    rcases hown.2 with ⟨hv, _⟩ | ⟨g, cap, cur, hv, _⟩
    · have := hne hv
      simp at this
    · exact ⟨g, cap, by simpa using hv⟩
  subst hv
  have hA1 : KeyAt w1 (some ⟨g, 0, none⟩) ks := ownKeys (by simpa using hown) HN.out
  have HB1 := Lib.hid hb1
  clear hown hgrow hrow hA0 hA h00 hb0 hnil hne hb1
  have C1 := Lib.hid (keySort ⟨g, 0, none⟩ cap ks HN.out (by omega) w1 hA1)
  go_wp2_with fail
  refine C1.out.mono ?_
  rintro e w2 ⟨g2, cap2, s, rfl, hk2, hl2, hlc2, hp2, hm2, hb2⟩
  have hA2 := hA1.below hb2
  have HB2 := Lib.hid (HB1.out.trans (hb2.mono HB1.out.size))
  have HM := Lib.hid hm2
  have HU := Lib.hid (upTo_all hp2 s.length (Nat.le_refl _))
  have hsm : s.length ≤ 1000000 := by have := HN.out; omega
  have HT := Lib.hid (keyTwice (some ⟨g2, 0, none⟩) cap2 s rfl (fun k hk => hfit k ((hm2 k).1 hk)) hsm w2 hk2)
  rw [scanTo_none (rise_nodup hp2) s.length (Nat.le_refl _)] at HT
  have hkr : keyR none = .tuple #[.agg #[.int .i64 0, .int .i64 0, .int .u32 0], .bool false] := rfl
  rw [hkr] at HT
  obtain ⟨m, hm⟩ : ∃ m, s.length = m := ⟨_, rfl⟩
  have hl3 : s.length ≤ n := by rw [HN.out] at hl2; exact hl2
  rw [hm] at HT HU hl3 hlc2 ⊢
  have HSL := Lib.hid hm
  clear hp2 hm2 hb2 hkr hm hl2 C1
  go_wp2_with fail
  refine HT.out.mono ?_
  rintro e w3 ⟨rfl, hb3⟩
  have HB3 := Lib.hid (hb3.alloc hb3.size (.cells #[.int .i64 0, .int .i64 0, .int .u32 0] 24))
  clear hb3 HT
  go_wp2
  go_loopw [26] (fun i wr => ∃ k : Nat, k ≤ n ∧ i = .int .i64 k ∧ Below w2.heap.size w2 wr) (fun i _ => n - (intOf i).toNat)
  case atStart => exact ⟨0, Nat.zero_le _, rfl, HB3.out⟩
  case round =>
    obtain ⟨k, hk, rfl, hb⟩ := hrel
    by_cases hlt : k < n
    · have hlt' : k < ks.length := by rw [HN.out]; exact hlt
      obtain ⟨b, off, hA1e, c0, c1', c2'⟩ := hA2.at_ hb hlt'
      injection hA1e with hA1e
      injection hA1e with h1 h2 _
      subst h1 h2
      simp only [Nat.zero_add] at c0 c1' c2'
      have hbs := hb.size
      have hba : Below w2.heap.size w2 (wr.alloc (.cells #[.int .i64 ks[k].t, .int .i64 ks[k].f, .int .u32 ks[k].s] 24)) := hb.alloc hb.size _
      have C := Lib.hid (refInB (some ⟨g2, 0, none⟩) cap2 s HSL.out ks[k] (by omega) (r := true) ((inK_iff _ _).2 ((HM.out _).2 (List.getElem_mem hlt'))) (wr.alloc (.cells #[.int .i64 ks[k].t, .int .i64 ks[k].f, .int .u32 ks[k].s] 24)) (hk2.below hba))
      have HB := Lib.hid hba
      clear hb hba
      go_wp2_with fail
      refine C.out.mono ?_
      rintro e w4 ⟨rfl, hb4⟩
      have HF := Lib.hid (HB.out.trans (hb4.mono (by simp; omega)))
      clear hb4
      go_wp2
      go_roundw
      case rel => exact ⟨k + 1, by omega, by go_num, HF.out⟩
      case measure => simp [intOf]; omega
    · obtain rfl : k = n := by omega
      have HB := Lib.hid hb
      clear hb
      go_wp2
      go_loopw [37] (fun i wr => ∃ j : Nat, j ≤ m ∧ i = .int .i64 j ∧ Below w2.heap.size w2 wr) (fun i _ => m - (intOf i).toNat)
      case atStart => exact ⟨0, Nat.zero_le _, rfl, HB.out⟩
      case round =>
        obtain ⟨j, hj, rfl, hb⟩ := hrel
        by_cases hlt2 : j < m
        · have hlt' : j < s.length := by rw [HSL.out]; exact hlt2
          obtain ⟨b, off, hA1e, c0, c1', c2'⟩ := hk2.at_ hb hlt'
          injection hA1e with hA1e
          injection hA1e with h1 h2 _
          subst h1 h2
          simp only [Nat.zero_add] at c0 c1' c2'
          have hbs := hb.size
          have hba : Below w2.heap.size w2 (wr.alloc (.cells #[.int .i64 s[j].t, .int .i64 s[j].f, .int .u32 s[j].s] 24)) := hb.alloc hb.size _
          have C := Lib.hid (refInB (some ⟨g, 0, none⟩) cap ks HN.out s[j] (by omega) (r := true) ((inK_iff _ _).2 ((HM.out _).1 (List.getElem_mem hlt'))) (wr.alloc (.cells #[.int .i64 s[j].t, .int .i64 s[j].f, .int .u32 s[j].s] 24)) (hA2.below hba))
          have HB := Lib.hid hba
          clear hb hba
          go_wp2_with fail
          refine C.out.mono ?_
          rintro e w4 ⟨rfl, hb4⟩
          have HF := Lib.hid (HB.out.trans (hb4.mono (by simp; omega)))
          clear hb4
          go_wp2
          go_roundw
          case rel => exact ⟨j + 1, by omega, by go_num, HF.out⟩
          case measure => simp [intOf]; omega
        · obtain rfl : j = m := by omega
          have C := Lib.hid (keyRising (some ⟨g2, 0, none⟩) cap2 s HSL.out (by omega) wr (hk2.below hb))
          rw [HU.out] at C
          have HB := Lib.hid hb
          clear hb
          go_wp2_with fail
          refine C.out.mono ?_
          rintro e w4 ⟨rfl, hb4⟩
          have HB3 := Lib.hid (HB2.out.trans ((HB.out.trans (hb4.mono HB.out.size)).mono HB2.out.size))
          clear hb4
          go_wp2_with fail
          refine (works06 _ (HP.out.below HB3.out)).mono ?_
          rintro e w5 ⟨rfl, hq4⟩
          go_wp2
          go_ret
          exact ⟨rfl, HB3.out.trans (hq4.mono HB3.out.size)⟩
end Go.Proofs.YtlkajpmfcibagaaDoor
