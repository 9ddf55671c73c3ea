/- A slice argument of events, opened: the events that it holds. -/
import Derived.Test.YtjnhkpjmjjhhdaaDoorTraceE
namespace Go.Proofs.YtjnhkpjmjjhhdaaDoor
open Go.RowKit Law
set_option linter.unusedVariables false

abbrev evKinds : List FK := [.inl .i64, .inl .i64, .inl .i64, .inl .i64, .inl .i64, .inl .u32, .inl .i64, .inl .i64]
theorem i64_of {z : Int} (h : (Lit.int .i64 z).wf = true) : I64 z := by simpa [Lit.wf, IntKind.min, IntKind.max, IntKind.signed, IntKind.bits, I64] using h
theorem u32_of {z : Int} (h : (Lit.int .u32 z).wf = true) : 0 ≤ z ∧ z ≤ 4294967295 := by simpa [Lit.wf, IntKind.min, IntKind.max, IntKind.signed, IntKind.bits] using h
theorem ev_of_fit {cs : List Value} (h : Fit evKinds cs) : ∃ e : Ev, e.Fits ∧ cs.toArray = e.cells := by
  obtain ⟨a0, us, rfl, w0, h⟩ := h.int
  obtain ⟨a1, us, rfl, w1, h⟩ := h.int
  obtain ⟨a2, us, rfl, w2, h⟩ := h.int
  obtain ⟨a3, us, rfl, w3, h⟩ := h.int
  obtain ⟨a4, us, rfl, w4, h⟩ := h.int
  obtain ⟨a5, us, rfl, w5, h⟩ := h.int
  obtain ⟨a6, us, rfl, w6, h⟩ := h.int
  obtain ⟨a7, us, rfl, w7, h⟩ := h.int
  obtain rfl := h.nil
  exact ⟨⟨a0, a1, a2, ⟨a3, a4, a5⟩, a6, a7⟩, ⟨i64_of w0, i64_of w1, i64_of w2, ⟨i64_of w3, i64_of w4, u32_of w5⟩, i64_of w6, i64_of w7⟩, rfl⟩
theorem events_of {W : World} {A : Option Addr} {len : Nat} (hnil : A = none → len = 0) (h : ∀ ad, A = some ad → ∀ i, i < len → ∃ cs : List Value, Fit evKinds cs ∧ ∀ j v, cs[j]? = some v → W.cell? (ad.add (i * 8 + j)) = some v) :
    ∃ es : List Ev, es.length = len ∧ EvAt W A es ∧ ∀ e ∈ es, e.Fits := by
  cases A with
  | none =>
    refine ⟨[], (hnil rfl).symm, fun k e he => by simp at he, by simp⟩
  | some ad =>
    have h1 : ∀ i, ∃ e : Ev, i < len → e.Fits ∧ ∀ j v, e.cells[j]? = some v → W.cell? (ad.add (i * 8 + j)) = some v := fun i => by
      by_cases hi : i < len
      · obtain ⟨cs, hf, hc⟩ := h ad rfl i hi
        obtain ⟨e, he, hcs⟩ := ev_of_fit hf
        exact ⟨e, fun _ => ⟨he, fun j v hv => hc j v (by rw [← hcs] at hv; simpa using hv)⟩⟩
      · exact ⟨⟨0, 0, 0, ⟨0, 0, 0⟩, 0, 0⟩, fun h' => absurd h' hi⟩
    have h2 : ∃ f : Nat → Ev, ∀ i, i < len → (f i).Fits ∧ ∀ j v, (f i).cells[j]? = some v → W.cell? (ad.add (i * 8 + j)) = some v := ⟨fun i => Classical.choose (h1 i), fun i => Classical.choose_spec (h1 i)⟩
    obtain ⟨f, hf⟩ := h2
    refine ⟨(List.range len).map f, by simp, fun k e he => ?_, ?_⟩
    · rw [List.getElem?_map] at he
      obtain ⟨i, hi, rfl⟩ := Option.map_eq_some_iff.1 he
      obtain ⟨hk, rfl⟩ : k < len ∧ k = i := by
        have := List.getElem?_eq_some_iff.1 hi
        obtain ⟨h3, h4⟩ := this
        simp at h3 h4
        exact ⟨h3, h4⟩
      obtain ⟨hfit, hc⟩ := hf k hk
      obtain ⟨b, off, spot⟩ := ad
      have c0 := hc 0 _ rfl
      have c1 : W.cell? ((⟨b, off, spot⟩ : Addr).add 0) = some (.int .i64 (f 0).tick) := by
        have := (hf 0 (by omega)).2 0 _ rfl
        rwa [Nat.zero_mul] at this
      have hspot : spot = none := by simpa [Addr.add] using World.cell?_spot c1
      subst hspot
      refine ⟨b, off, rfl, ?_, fun j v hv => ?_⟩
      · have := World.block_lt_of_cell? _ _ c0
        rwa [Lib.add_plain] at this
      · have := hc j v hv
        rwa [Lib.add_plain, ← Nat.add_assoc] at this
    · intro e he
      obtain ⟨i, hi, rfl⟩ := List.mem_map.1 he
      exact (hf i (by simpa using hi)).1
end Go.Proofs.YtjnhkpjmjjhhdaaDoor
