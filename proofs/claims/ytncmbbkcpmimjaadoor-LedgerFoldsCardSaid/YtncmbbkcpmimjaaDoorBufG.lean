/- buf.Writer.Done where nothing is wrong. -/
import Derived.Test.YtncmbbkcpmimjaaDoorBufF
namespace Go.Proofs.YtncmbbkcpmimjaaDoor
open Go.RowKit Law
set_option linter.unusedVariables false

set_option maxHeartbeats 1600000 in
set_option maxRecDepth 100000 in
theorem wrDone (bw base : Nat) (T : List UInt8) (v : Value) (w : World) (h : WrSt w bw base T v) (hr : T.length ≤ 400) :
    Calls Tryd.prog 15 #[.pointer (some ⟨bw, 0, none⟩)] w fun e w' => ∃ v2, e = .returned (.tuple #[v2, .int .i64 0]) ∧ w'.ownsRow w.heap.size 5 1 v2 T.length (u8V T) ∧ Below w.heap.size w w' := by
  obtain ⟨i0, hi, hz0, hz1, hz2⟩ := info_parts u8Info
  have hvn : v = .slice none 0 0 ∨ ∃ g c, v = .slice (some ⟨g, 0, none⟩) T.length c := by
    rcases h.own.2 with ⟨hv, _⟩ | ⟨g, cap, cur, hv, _⟩
    · exact .inl hv
    · exact .inr ⟨g, cap, hv⟩
  obtain ⟨A1, c1, rfl, hc1⟩ := (OwnOr.form (.inl h.own) : ∃ A c, v = .slice A T.length c ∧ T.length ≤ c)
  have hnil : A1 = none → c1 = 0 ∧ T.length = 0 := by
    intro hA
    subst hA
    rcases hvn with hv | ⟨g, c, hv⟩
    · simp only [Value.slice.injEq, true_and] at hv; exact ⟨hv.2, hv.1⟩
    · cases hv
  have hA := ownU8 h.own rfl
  have C := Lib.hid (wrFine bw w h.at_.c0)
  have h1 := h.at_.c1
  have h00 := World.ownsRow_made (base := w.heap.size) (e := 5) (size := 1) w #[] 0 (Nat.le_refl _) (by simp [maxLen]) rfl
  have hb0 : Below w.heap.size w (w.alloc (.cells #[] 5)) := (Below.refl _ _).alloc (Nat.le_refl _) _
  have hA0 := hA.keep hb0
  have hbl := h.at_.lt
  clear h hvn hA
  go_enter Tryd.func15, Tryd.ntmps15
  go_wp2_with fail
  refine C.out.mono ?_
  rintro e w1 ⟨rfl, rfl⟩
  go_wp2_with (at_builtin; refine wpList_append_copy _ rfl _ _ 29 rfl w1.heap.size 5 i0 _ 1 1 Tryd.underlying29 hi hz0 hz1 hz2 rfl (by decide) _ _ _ rfl h00 A1 T.length c1 (u8V T) rfl ?c0 ?c1 ?c2 ?c3 ?c4 ?c5 ?c6 ?_)
  case c0 => exact hnil
  case c1 => unfold u8V; rw [List.length_map, Nat.mul_one]
  case c2 => exact hA0.flat
  case c3 => exact u8_one
  case c4 => unfold maxLen; omega
  case c5 => omega
  case c6 => simp
  intro v' w2 row hown hgrow hrow
  have hb2 : Below w1.heap.size w1 w2 := hb0.grown hgrow (by simp) hrow
  have HF := Lib.hid (And.intro hown hb2)
  clear hown hgrow hrow hb2 hA0 h00 hb0
  go_wp2
  go_ret2
  exact ⟨v', rfl, HF.out⟩
end Go.Proofs.YtncmbbkcpmimjaaDoor
