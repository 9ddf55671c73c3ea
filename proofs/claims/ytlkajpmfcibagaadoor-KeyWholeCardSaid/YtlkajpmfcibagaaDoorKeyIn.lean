/- A slice of keys that came in reads as a list. -/
import Derived.Test.YtlkajpmfcibagaaDoorKeyTv
namespace Go.Proofs.YtlkajpmfcibagaaDoor
open Go.RowKit Law
abbrev keyKinds : List FK := [.inl .i64, .inl .i64, .inl .u32]
theorem key_of_fit {cs : List Value} (h : Fit keyKinds cs) : ∃ k : K, k.Fits ∧ k.cells.toList = cs := by
  obtain ⟨t, us, rfl, wt, h⟩ := h.int
  obtain ⟨f, us, rfl, wf, h⟩ := h.int
  obtain ⟨s, us, rfl, ws, h⟩ := h.int
  obtain rfl := h.nil
  exact ⟨⟨t, f, s⟩, ⟨by simpa [Lit.wf, IntKind.min, IntKind.max, IntKind.signed, IntKind.bits] using wt, by simpa [Lit.wf, IntKind.min, IntKind.max, IntKind.signed, IntKind.bits] using wf, by simpa [Lit.wf, IntKind.min, IntKind.max, IntKind.signed, IntKind.bits] using ws⟩, rfl⟩
theorem keys_of {W : World} {A : Option Addr} {len : Nat} (hnil : A = none → len = 0) (h : ∀ ad, A = some ad → ∀ i, i < len → ∃ cs : List Value, Fit keyKinds cs ∧ ∀ j v, cs[j]? = some v → W.cell? (ad.add (i * 3 + j)) = some v) :
    ∃ es : List K, es.length = len ∧ KeyAt W A es ∧ ∀ e ∈ es, e.Fits := by
  cases A with
  | none => exact ⟨[], (hnil rfl).symm, fun k e he => by simp at he, by simp⟩
  | some ad =>
    have h1 : ∀ i, ∃ e : K, i < len → e.Fits ∧ ∀ j v, e.cells[j]? = some v → W.cell? (ad.add (i * 3 + j)) = some v := fun i => by
      by_cases hi : i < len
      · obtain ⟨cs, hf, hc⟩ := h ad rfl i hi
        obtain ⟨e, he, hcs⟩ := key_of_fit hf
        exact ⟨e, fun _ => ⟨he, fun j v hv => hc j v (by rw [← hcs]; simpa using hv)⟩⟩
      · exact ⟨⟨0, 0, 0⟩, fun h' => absurd h' hi⟩
    obtain ⟨f, hf⟩ : ∃ f : Nat → K, ∀ i, i < len → (f i).Fits ∧ ∀ j v, (f i).cells[j]? = some v → W.cell? (ad.add (i * 3 + j)) = some v := ⟨fun i => Classical.choose (h1 i), fun i => Classical.choose_spec (h1 i)⟩
    refine ⟨(List.range len).map f, by simp, fun k e he => ?_, ?_⟩
    · rw [List.getElem?_map] at he
      obtain ⟨i, hi, rfl⟩ := Option.map_eq_some_iff.1 he
      obtain ⟨hk, rfl⟩ : k < len ∧ k = i := by
        obtain ⟨h3, h4⟩ := List.getElem?_eq_some_iff.1 hi
        simp at h3 h4
        exact ⟨h3, h4⟩
      obtain ⟨hfit, hc⟩ := hf k hk
      obtain ⟨b, off, spot⟩ := ad
      have c0 := hc 0 _ rfl
      have c1 : W.cell? ((⟨b, off, spot⟩ : Addr).add 0) = some (.int .i64 (f 0).t) := by
        have := (hf 0 (by omega)).2 0 _ rfl
        rwa [Nat.zero_mul] at this
      have hspot : spot = none := by simpa [Addr.add] using World.cell?_spot c1
      subst hspot
      refine ⟨b, off, rfl, ?_, fun j v hv => ?_⟩
      · have := World.block_lt_of_cell? _ _ c0
        rwa [Lib.add_plain] at this
      · have := hc j v hv
        rwa [Lib.add_plain, ← Nat.add_assoc] at this
    · intro e he
      obtain ⟨i, hi, rfl⟩ := List.mem_map.1 he
      exact (hf i (by simpa using hi)).1
end Go.Proofs.YtlkajpmfcibagaaDoor
