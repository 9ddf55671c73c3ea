/- KeySorts: the walk. -/
import Derived.Test.YtlkajpmfcibagaaDoorKeySv
namespace Go.Proofs.YtlkajpmfcibagaaDoor
open Go.RowKit Law
set_option linter.unusedVariables false

set_option maxHeartbeats 6400000 in
set_option maxRecDepth 100000 in
theorem walkSorts (len n : Nat) (A : Option Addr) (c : Nat) (ks : List K) (hn : ks.length = n) (hmin : min (len : Int) 40 = (n : Int)) (hc : len ≤ c) (hm : c ≤ maxLen) (hnil : A = none → c = 0) (w : World) (hA : KeyAt w A ks) (h : P10 w) :
    Calls Tryd.prog 7 #[.slice A len c] w fun e w' => e = .returned (.bool true) ∧ Below w.heap.size w w' := by
  unfold maxLen at hm
  have hn40 : n ≤ 40 := by omega
  have hmax : max (n : Int) 0 = (n : Int) := by omega
  have HN := Lib.hid hn
  have HP := Lib.hid h
  obtain ⟨i0, hi, hz0, hz1, hz2⟩ := info_parts keyInfo
  have h00 := World.ownsRow_made (base := w.heap.size) (e := 24) (size := 3) w #[] 0 (Nat.le_refl _) (by simp [maxLen]) rfl
  have hb0 : Below w.heap.size w (w.alloc (.cells #[] 24)) := (Below.refl _ _).alloc (Nat.le_refl _) _
  have hA0 := hA.below hb0
  clear h hn
  go_enter Tryd.func7, Tryd.ntmps7
  go_wp2_with (at_builtin; refine wpList_append_copy2 _ rfl _ _ 35 rfl w.heap.size 24 i0 _ 3 24 Tryd.underlying35 hi hz0 hz1 hz2 rfl (by decide) _ _ _ rfl h00 A n c (flatK ks) rfl ?c0 ?c1 ?c2 ?c3 ?c4 ?c5 ?c6 ?_)
  case c0 => intro hx; have := hnil hx; omega
  case c1 => rw [flatK_len, HN.out]
  case c2 => exact hA0.flat
  case c3 => exact fun u hu => flatK_one hu
  case c4 => unfold maxLen; omega
  case c5 => omega
  case c6 => simp
  intro v' w1 row hown hgrow hrow hne
  have hb1 : Below w.heap.size w w1 := hb0.grown hgrow (by simp) hrow
  obtain ⟨g, cap, hv⟩ : ∃ g cap, v' = .slice (some ⟨g, 0, none⟩) n cap := by
    rcases hown.2 with ⟨hv, _⟩ | ⟨g, cap, cur, hv, _⟩
    · have := hne hv
      simp at this
    · exact ⟨g, cap, by simpa using hv⟩
  subst hv
  have hA1 : KeyAt w1 (some ⟨g, 0, none⟩) ks := ownKeys (by simpa using hown) HN.out
  have HB1 := Lib.hid hb1
  clear hown hgrow hrow hA0 hA h00 hb0 hnil hne hb1
  go_wp2
  go_loopw [3, 15] (fun v i wr => ∃ (k : Nat) (A2 : Option Addr) (c2 : Nat), k ≤ n ∧ i = .int .i64 k ∧ v = .slice A2 (wantK ks k).length c2 ∧ KeyAt wr A2 (wantK ks k) ∧ Below w1.heap.size w1 wr) (fun _ i _ => n - (intOf i).toNat)
  case atStart => exact ⟨0, none, 0, Nat.zero_le _, rfl, rfl, (fun k e he => by simp [wantK] at he), Below.refl _ _⟩
  case round =>
    obtain ⟨k, A2, c2, hk, rfl, rfl, hw, hb⟩ := hrel
    have hwl := wantK_len ks k
    obtain ⟨s, hs⟩ : ∃ s, wantK ks k = s := ⟨_, rfl⟩
    rw [hs] at hw hwl ⊢
    have HS := Lib.hid hs
    clear hs
    by_cases hlt : k < n
    · have hlt' : k < ks.length := by rw [HN.out]; exact hlt
      obtain ⟨b, off, hA1e, c0, c1', c2'⟩ := hA1.at_ hb hlt'
      injection hA1e with hA1e
      injection hA1e with h1 h2 _
      subst h1 h2
      simp only [Nat.zero_add] at c0 c1' c2'
      have hbs := hb.size
      have hba : Below wr.heap.size wr (wr.alloc (.cells #[.int .i64 ks[k].t, .int .i64 ks[k].f, .int .u32 ks[k].s] 24)) := (Below.refl _ _).alloc (Nat.le_refl _) _
      have C := Lib.hid (refInto A2 c2 s rfl ks[k] (by omega) (wr.alloc (.cells #[.int .i64 ks[k].t, .int .i64 ks[k].f, .int .u32 ks[k].s] 24)) (hw.below hba))
      have HB := Lib.hid (And.intro hb hba)
      have HW : Hid (wantK ks (k + 1) = intoK s ks[k]) := by unfold Hid; rw [wantK_succ hlt', HS.out]
      clear hw hb hba
      go_wp2_with fail
      refine C.out.mono ?_
      rintro e w3 ⟨A3, c3, rfl, hk3, hb3⟩
      have HF := Lib.hid (And.intro hk3 ((HB.out.1.trans (HB.out.2.mono hbs)).trans (hb3.mono (by have := HB.out.2.size; omega))))
      clear hk3 hb3
      go_wp2
      go_roundw
      case rel => exact ⟨k + 1, A3, c3, by omega, by go_num, by rw [HW.out], by rw [HW.out]; exact HF.out.1, HF.out.2⟩
      case measure => simp [intOf]; omega
    · obtain rfl : k = n := by omega
      have C1 := Lib.hid (keySort ⟨g, 0, none⟩ cap ks HN.out (by omega) wr (hA1.below hb))
      have HW := Lib.hid (And.intro hw hb)
      clear hw hb
      go_wp2_with fail
      refine C1.out.mono ?_
      rintro e w2 ⟨g2, cap2, s2, rfl, hk2, hl2, hlc2, hp2, hm2, hb2⟩
      have hss : s2 = s := by
        obtain ⟨p1, p2⟩ := wantK_spec (ks := ks) k (by rw [HN.out]; exact Nat.le_refl _)
        rw [HS.out] at p1 p2
        refine rise_unique s2 s hp2 p1 fun y => ?_
        rw [hm2 y, p2 y, List.take_of_length_le (by rw [HN.out]; exact Nat.le_refl _)]
      subst hss
      have C2 := Lib.hid (lawSame (some ⟨g2, 0, none⟩) A2 cap2 c2 s2 rfl (by omega) w2 hk2 (HW.out.1.below hb2))
      have HB2 := Lib.hid (HW.out.2.trans (hb2.mono HW.out.2.size))
      clear hk2 hp2 hm2 hb2
      go_wp2_with fail
      refine C2.out.mono ?_
      rintro e w3 ⟨rfl, hb3⟩
      have HB3 := Lib.hid (HB1.out.trans ((HB2.out.trans (hb3.mono HB2.out.size)).mono HB1.out.size))
      clear hb3
      go_wp2_with fail
      refine (works06 _ (HP.out.below HB3.out)).mono ?_
      rintro e w4 ⟨rfl, hq4⟩
      go_wp2
      go_ret
      exact ⟨rfl, HB3.out.trans (hq4.mono HB3.out.size)⟩
end Go.Proofs.YtlkajpmfcibagaaDoor
