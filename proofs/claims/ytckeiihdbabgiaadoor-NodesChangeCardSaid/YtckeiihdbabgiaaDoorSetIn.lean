/- A slice of ints that came in reads as a list. -/
import Derived.Test.YtckeiihdbabgiaaDoorSetB
namespace Go.Proofs.YtckeiihdbabgiaaDoor
open Go.RowKit Law
theorem i64_of {z : Int} (h : (Lit.int .i64 z).wf = true) : -9223372036854775808 ≤ z ∧ z ≤ 9223372036854775807 := by
  simpa [Lit.wf, IntKind.min, IntKind.max, IntKind.signed, IntKind.bits] using h
theorem ints_of {W : World} {A : Option Addr} {len : Nat} (hnil : A = none → len = 0) (h : ∀ ad, A = some ad → ∀ i, i < len → ∃ cs : List Value, Fit [.inl .i64] cs ∧ ∀ j v, cs[j]? = some v → W.cell? (ad.add (i * 1 + j)) = some v) :
    ∃ l : List Int, l.length = len ∧ IntsAt W A l ∧ ∀ z ∈ l, -9223372036854775808 ≤ z ∧ z ≤ 9223372036854775807 := by
  cases A with
  | none => exact ⟨[], (hnil rfl).symm, fun k z hz => by simp at hz, by simp⟩
  | some ad =>
    have h1 : ∀ i, ∃ z : Int, i < len → (-9223372036854775808 ≤ z ∧ z ≤ 9223372036854775807) ∧ W.cell? (ad.add i) = some (.int .i64 z) := fun i => by
      by_cases hi : i < len
      · obtain ⟨cs, hf, hc⟩ := h ad rfl i hi
        obtain ⟨z, vs, rfl, wz, hf⟩ := hf.int
        obtain rfl := hf.nil
        refine ⟨z, fun _ => ⟨i64_of wz, ?_⟩⟩
        have := hc 0 (.int .i64 z) rfl
        rwa [Nat.mul_one, Nat.add_zero] at this
      · exact ⟨0, fun h' => absurd h' hi⟩
    have h2 : ∃ f : Nat → Int, ∀ i, i < len → (-9223372036854775808 ≤ f i ∧ f i ≤ 9223372036854775807) ∧ W.cell? (ad.add i) = some (.int .i64 (f i)) := ⟨fun i => Classical.choose (h1 i), fun i => Classical.choose_spec (h1 i)⟩
    obtain ⟨f, hf⟩ := h2
    refine ⟨(List.range len).map f, by simp, fun k z hz => ?_, ?_⟩
    · rw [List.getElem?_map] at hz
      obtain ⟨i, hi, rfl⟩ := Option.map_eq_some_iff.1 hz
      obtain ⟨hk, rfl⟩ : k < len ∧ k = i := by
        obtain ⟨h3, h4⟩ := List.getElem?_eq_some_iff.1 hi
        simp at h3 h4
        exact ⟨h3, h4⟩
      obtain ⟨b, off, spot⟩ := ad
      have hc := (hf k hk).2
      have c1 := (hf 0 (by omega)).2
      have hspot : spot = none := by simpa [Addr.add] using World.cell?_spot c1
      subst hspot
      rw [Lib.add_plain] at hc
      exact ⟨b, off, rfl, World.block_lt_of_cell? _ _ hc, hc⟩
    · intro e he
      obtain ⟨i, hi, rfl⟩ := List.mem_map.1 he
      exact (hf i (by simpa using hi)).1
end Go.Proofs.YtckeiihdbabgiaaDoor
