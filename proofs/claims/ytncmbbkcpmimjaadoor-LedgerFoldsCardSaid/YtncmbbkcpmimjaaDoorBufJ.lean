/- LedgerPuts: the walk. -/
import Derived.Test.YtncmbbkcpmimjaaDoorBufI
import Derived.Test.YtncmbbkcpmimjaaDoorLdOf
namespace Go.Proofs.YtncmbbkcpmimjaaDoor
open Go.RowKit Law
set_option linter.unusedVariables false

theorem WrSt.new (w : World) : WrSt (w.alloc (.cells #[.int .i64 0, .slice none 0 0, .int .i64 400] 74)) w.heap.size (w.heap.size + 1) [] (.slice none 0 0) :=
  ⟨WrAt.new w, ⟨by simp [u8V], .inl ⟨rfl, rfl⟩⟩, by omega, by simp⟩
/-- Bytes as a string. -/
theorem conv_own {w : World} {base g n c : Nat} {T : List UInt8} (h : w.ownsRow base 5 1 (.slice (some ⟨g, 0, none⟩) n c) n (u8V T)) (hn : T.length = n) :
    (convert 29 9 (.slice (some ⟨g, 0, none⟩) n c)).run Tryd.prog w = .ok (.string ⟨T.toArray⟩) w := by
  have hA := ownU8 h hn
  subst hn
  refine run_convert_bytes_back (P := Tryd.prog) w 29 9 5 ⟨g, 0, none⟩ c T Tryd.underlying29 Tryd.underlying5 Tryd.underlying9 (fun j hj => ?_)
  exact hA.flat _ rfl j _ (by unfold u8V; rw [List.getElem?_map, List.getElem?_eq_getElem hj]; rfl)
section
attribute [local go_sem ↓] Go.wp_at_zero Go.wp_at_succ exec_ld
attribute [local go_sem] ptr0_mk ptrB_mk
set_option maxHeartbeats 3200000 in
set_option maxRecDepth 100000 in
theorem walkLPuts (l : Ld) (hf : l.Fits) (n : Int) (w : World) (hP : P10 w) (hT : T64 w) :
    Calls Tryd.prog 5 #[l.val, .int .i64 n] w fun en w' => en = .returned (.bool true) ∧ Below w.heap.size w w' := by
  obtain ⟨T, hT0⟩ : ∃ T, putK l (clampN n) = T := ⟨_, rfl⟩
  obtain ⟨N, hN⟩ : ∃ N, T.length = N := ⟨_, rfl⟩
  have hN16 : 16 ≤ N ∧ N ≤ 400 := by rw [← hN, ← hT0, putK_len]; have := clampN_le n; omega
  have hb0 : Below w.heap.size w (w.alloc (.cells l.cells.toArray 26)) := (Below.refl _ _).alloc (Nat.le_refl _) _
  have hO0 := LdObj.new w l
  have C16 : Hid (∀ W, Calls Tryd.prog 16 #[.agg l.cells.toArray, .int .i64 n] W fun e w' => ∃ g c, e = .returned (.slice (some ⟨g, 0, none⟩) N c) ∧ (convert 29 9 (.slice (some ⟨g, 0, none⟩) N c)).run Tryd.prog w' = .ok (.string ⟨T.toArray⟩) w' ∧ Below W.heap.size W w') := fun W =>
    (refBytes l hf n W).mono fun e w' ⟨v, he, hown, hb⟩ => by
      rw [hT0, hN] at hown
      obtain ⟨g, c, rfl, _, _⟩ := hown.form (by omega)
      exact ⟨g, c, he, conv_own hown hN, hb⟩
  have C17 := Lib.hid (ledTotal l hf)
  have C18 := Lib.hid (refTotal l hf)
  have CP := Lib.hid (fun bw base v W h => ledPut bw base v l hf n W h)
  rw [hT0] at CP
  have HP := Lib.hid (And.intro hP hT)
  have HN := Lib.hid (And.intro hN hN16)
  have HO := Lib.hid (And.intro hO0 hb0)
  have hld0 := LdHas.of hf hO0.at_
  obtain ⟨TT, hTT⟩ : ∃ TT, totK l 64 = TT := ⟨_, rfl⟩
  simp only [hTT] at C17 C18
  unfold Ld.val at C17 C18 CP ⊢
  have hl1 := hld0.fit
  have hl2 := hld0.eq
  clear hP hT hN hN16 hO0 hb0 hld0 hTT
  go_enter Tryd.func5, Tryd.ntmps5
  go_wp2_with fail
  refine (bufNew _).mono ?_
  rintro e w2 ⟨rfl, rfl⟩
  have hO2 := HO.out.1.below ((Below.refl _ _).alloc (Nat.le_refl _) (.cells #[.int .i64 0, .slice none 0 0, .int .i64 400] 74))
  have hW2 := WrSt.new (w.alloc (.cells l.cells.toArray 26))
  rw [World.size_alloc] at hW2
  have hld2 := LdHas.of hf hO2.at_
  have hl3 := hld2.fit
  have hl4 := hld2.eq
  have H2 := Lib.hid (And.intro hO2 hW2)
  clear hO2 hW2 hld2 hl1 hl2
  go_wp2_with fail
  refine (CP.out _ _ _ _ H2.out.2).mono ?_
  rintro e w3 ⟨rfl, v3, hw3, hb3⟩
  have hO3 : LdObj w3 w.heap.size l := by
    obtain ⟨fr, hg⟩ := H2.out.1
    exact ⟨fr, (hb3.block w.heap.size (by simp)).trans hg⟩
  have hb03 : Below w.heap.size w w3 := (HO.out.2.alloc (by simp) _).trans (hb3.mono (by simp))
  have H3 := Lib.hid (And.intro hO3 (And.intro hb03 hw3))
  clear hb3 hO3 hb03 hw3 hl3 hl4
  go_wp2_with fail
  refine (wrDone _ _ T v3 w3 H3.out.2.2 (by rw [HN.out.1]; exact HN.out.2.2)).mono ?_
  rintro e w4 ⟨v4, rfl, hown4, hb4⟩
  rw [HN.out.1] at hown4
  obtain ⟨g4, c4, rfl, -, -⟩ := hown4.form (by have := HN.out.2.1; omega)
  have HST : Hid (∀ w', Below w4.heap.size w4 w' → Below w4.heap.size w4 w' ∧ LdFit w' w.heap.size ∧ ldOf w' w.heap.size = l.cells.toArray ∧ (convert 29 9 (.slice (some ⟨g4, 0, none⟩) N c4)).run Tryd.prog w' = .ok (.string ⟨T.toArray⟩) w') := fun w' hb =>
    have h1 := LdHas.of hf ((H3.out.1.below hb4).below hb).at_
    ⟨hb, h1.fit, h1.eq, conv_own (ownsRow_kept hown4 hb) HN.out.1⟩
  have H4 := Lib.hid (H3.out.2.1.trans (hb4.mono H3.out.2.1.size))
  have C10 := Lib.hid (fun W h => works37 W (HP.out.1.below (H4.out.trans (Below.mono h H4.out.size))) (HP.out.2.below (H4.out.trans (Below.mono h H4.out.size))))
  clear hown4 hb4
  go_wp2_with fail
  go_region_held (fun w' => Below w4.heap.size w4 w' ∧ LdFit w' w.heap.size ∧ ldOf w' w.heap.size = l.cells.toArray ∧ (convert 29 9 (.slice (some ⟨g4, 0, none⟩) N c4)).run Tryd.prog w' = .ok (.string ⟨T.toArray⟩) w')
    (first
      | exact HST.out _ (below_draws (Below.refl _ _) 1)
      | (go_split_ands; exact HST.out _ (Below.trans (by assumption) (Below.mono hb5 (Below.size (by assumption)))))
      | (go_split_ands; refine ⟨?_, ?_, ?_, ?_⟩ <;> assumption))
    (first
      | (go_at_call 16; (with_reducible refine (C16.out _).mono ?_); rintro e w5 ⟨g5, c5, rfl, hcv5, hb5⟩)
      | (go_at_call 17; (with_reducible refine (C17.out _).mono ?_); rintro e w5 ⟨rfl, hb5⟩)
      | (go_at_call 18; (with_reducible refine (C18.out _).mono ?_); rintro e w5 ⟨rfl, hb5⟩)
      | (go_at_call 10; (with_reducible refine (C10.out _ (by go_split_ands; assumption)).mono ?_); rintro e w5 ⟨rfl, hb5⟩))
  all_goals
    have hbl := H4.out.trans (Below.mono (by go_split_ands; assumption) H4.out.size)
    go_wp2
    go_ret
    exact ⟨rfl, hbl⟩
end
end Go.Proofs.YtncmbbkcpmimjaaDoor
