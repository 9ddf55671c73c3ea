/- key.Sort: each key once, in order. -/
import Derived.Test.YtlkajpmfcibagaaDoorKeySq
import Derived.Test.YtlkajpmfcibagaaDoorKeyTv
import Derived.Lib.OwnBridge
import Derived.WalkSpells
namespace Go.Proofs.YtlkajpmfcibagaaDoor
open Go.RowKit Law Go.Sort Go.Lib
set_option linter.unusedVariables false

def encK (k : K) : List Value := [.int .i64 k.t, .int .i64 k.f, .int .u32 k.s]
theorem cloneKeys {n : Nat} (ad : Addr) (c : Nat) (ks : List K) (hn : ks.length = n) (hm : n ≤ 1000000) (w : World) (hA : KeyAt w (some ad) ks) :
    Calls Tryd.prog 34 #[.slice (some ad) n c] w fun e w' => ∃ g cap, e = .returned (.slice (some ⟨g, 0, none⟩) n cap) ∧ w'.ownsRow w.heap.size 24 3 (.slice (some ⟨g, 0, none⟩) n cap) n (Go.Proofs.YtlkajpmfcibagaaDoor.flatK ks) ∧ Below w.heap.size w w' := by
  have HN := Lib.hid hn
  obtain ⟨i0, hi, hz0, hz1, hz2⟩ := info_parts keyInfo
  have h00 := World.ownsRow_made (base := w.heap.size) (e := 24) (size := 3) w #[] 0 (Nat.le_refl _) (by simp [maxLen]) rfl
  have hb0 : Below w.heap.size w (w.alloc (.cells #[] 24)) := (Below.refl _ _).alloc (Nat.le_refl _) _
  have hA0 := hA.below hb0
  have heq : ∀ W : World, (binOp .eql 35 (.slice (some ad) n c) (.slice none 0 0)).run Tryd.prog W = .ok (.bool false) W := fun W => Lib.run_eql_slice_nil W _ _ (some ad) n c 0 0 Tryd.underlying35
  clear hn
  go_enter Tryd.func34, Tryd.ntmps34
  go_wp2_with (at_builtin; refine wpList_append_copy2 _ rfl _ _ 35 rfl w.heap.size 24 i0 _ 3 24 Tryd.underlying35 hi hz0 hz1 hz2 rfl (by decide) _ _ _ rfl h00 (some ad) n c (Go.Proofs.YtlkajpmfcibagaaDoor.flatK ks) rfl ?c0 ?c1 ?c2 ?c3 ?c4 ?c5 ?c6 ?_)
  case c0 => intro hx; cases hx
  case c1 => rw [flatK_len, HN.out]
  case c2 => exact hA0.flat
  case c3 => exact fun u hu => flatK_one hu
  case c4 => unfold maxLen; omega
  case c5 => omega
  case c6 => simp
  intro v' w1 row hown hgrow hrow hne
  have hb1 : Below w.heap.size w w1 := hb0.grown hgrow (by simp) hrow
  obtain ⟨g, cap, hv⟩ : ∃ g cap, v' = .slice (some ⟨g, 0, none⟩) n cap := by
    rcases hown.2 with ⟨hv, _⟩ | ⟨g, cap, cur, hv, _⟩
    · have := hne hv
      simp at this
    · exact ⟨g, cap, by simpa using hv⟩
  subst hv
  have HO := Lib.hid hown
  clear hown hgrow hrow hne heq
  go_wp2
  go_ret
  exact ⟨g, cap, rfl, by simpa using HO.out, hb1⟩
theorem getD_toArray (ks : List K) (p : Nat) : ks.toArray[p]! = ks.getD p k0 := by
  rw [Array.getElem!_eq_getD, List.getD_eq_getElem?_getD, Array.getD_eq_getD_getElem?]
  simp
  rfl
theorem holds_own {w : World} {base g n cap : Nat} {ks : List K} (h : w.ownsRow base 24 3 (.slice (some ⟨g, 0, none⟩) n cap) n (Go.Proofs.YtlkajpmfcibagaaDoor.flatK ks)) (hn : ks.length = n) : HoldsK encK 3 w g 0 ks.toArray := by
  intro j hj
  rw [Go.Sort.size_flatK] at hj
  simp only [List.size_toArray] at hj
  have hk : j / 3 < ks.length := by omega
  have hm : j % 3 < 3 := by omega
  rw [Nat.zero_add]
  have h1 := flatK_at ks (j / 3) (j % 3) ks[j / 3] ks[j / 3].cells[j % 3] (List.getElem?_eq_getElem hk) (Array.getElem?_eq_getElem hm)
  rw [show j / 3 * 3 + j % 3 = j by omega] at h1
  have h2 := h.cells (g := g) rfl j _ h1
  rw [Lib.add_plain, Nat.zero_add] at h2
  refine ⟨?_, ?_⟩
  · rw [h2, Go.Sort.get_flatK _ _ _ _ (by simpa using hj), getD_toArray, getD_at hk]
    have h3 : j % 3 = 0 ∨ j % 3 = 1 ∨ j % 3 = 2 := by omega
    rcases h3 with h | h | h <;> simp only [h] <;> rfl
  · rcases h.2 with ⟨hv, _⟩ | ⟨g', cap', cur, hv, _, hg, _⟩
    · cases hv
    · simp only [Value.slice.injEq, Option.some.injEq, Addr.mk.injEq, and_true, true_and] at hv
      obtain ⟨rfl, rfl⟩ := hv
      simp [World.frozen?, hg]
theorem row_of_holds {w : World} {g n : Nat} {ks : List K} (hn : ks.length = n) (h : HoldsK encK 3 w g 0 ks.toArray) : RowF w g (fun p => ks.getD p k0) n := by
  intro p hp
  have hc : ∀ j, j < 3 → w.cell? ⟨g, p * 3 + j, none⟩ = some ((encK (ks.getD p k0))[j]!) ∧ w.frozen? ⟨g, p * 3 + j, none⟩ = false := by
    intro j hj
    have hlt : p * 3 + j < ks.length * 3 := by omega
    have := h (p * 3 + j) (by rw [Go.Sort.size_flatK]; simpa using hlt)
    rw [Nat.zero_add, Go.Sort.get_flatK _ _ _ _ (by simpa using hlt), show (p * 3 + j) / 3 = p by omega, show (p * 3 + j) % 3 = j by omega, getD_toArray] at this
    exact this
  have h0 := hc 0 (by omega)
  have h1 := hc 1 (by omega)
  have h2 := hc 2 (by omega)
  exact ⟨⟨h0.1, h1.1, h2.1⟩, h0.2, h1.2, h2.2⟩
theorem below_grows {B : Nat} {a w : World} (h : Below B a w) (q : Nat) (os : Array Obj) (hB : B ≤ w.heap.size) : Below B a (grow (w.drewN q) os) :=
  h.trans ((below_grow w q os).mono hB)
end Go.Proofs.YtlkajpmfcibagaaDoor
