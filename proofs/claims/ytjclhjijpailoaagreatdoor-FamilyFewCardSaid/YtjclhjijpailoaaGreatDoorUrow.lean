/- A row of bytes that came in, as numbers. -/
import Derived.Test.YtjclhjijpailoaaGreatDoorFam
import Derived.Test.YtjclhjijpailoaaGreatDoorCfgJ
namespace Go.Proofs.YtjclhjijpailoaaGreatDoor
open Go.ChangeShapes Go.WideShapes Go.ChangeAt Go.RowKit Law
set_option linter.unusedVariables false
set_option linter.unusedSimpArgs false

theorem u8Flat : flat Tryz.prog 8 5 = some [.inl .u8] := by kernel_rfl
theorem urow_of {W : World} {A : Option Addr} {len : Nat} (hnil : A = none → len = 0) (h : ∀ ad, A = some ad → ∀ i, i < len → ∃ cs : List Value, Fit [.inl .u8] cs ∧ ∀ j v, cs[j]? = some v → W.cell? (ad.add (i * 1 + j)) = some v) :
    ∃ bs : List Nat, bs.length = len ∧ (∀ x ∈ bs, x < 256) ∧ URow W W.heap.size A bs := by
  cases A with
  | none => exact ⟨[], (hnil rfl).symm, fun x hx => by simp at hx, fun k x hx => by simp at hx⟩
  | some ad =>
    have h1 : ∀ i, ∃ c : Nat, c < 256 ∧ (i < len → W.cell? (ad.add i) = some (.int .u8 (c : Int))) := fun i => by
      by_cases hi : i < len
      · obtain ⟨cs, hf, hc⟩ := h ad rfl i hi
        obtain ⟨z, us, rfl, wz, hf⟩ := hf.int
        have hz : 0 ≤ z ∧ z ≤ 255 := by simpa [Lit.wf, IntKind.min, IntKind.max, IntKind.signed, IntKind.bits] using wz
        have := hc 0 _ rfl
        rw [Nat.mul_one, Nat.add_zero] at this
        refine ⟨z.toNat, by omega, fun _ => ?_⟩
        rw [this, show ((z.toNat : Nat) : Int) = z by omega]
      · exact ⟨0, by omega, fun h' => absurd h' hi⟩
    obtain ⟨f, hf⟩ : ∃ f : Nat → Nat, ∀ i, f i < 256 ∧ (i < len → W.cell? (ad.add i) = some (.int .u8 ((f i : Nat) : Int))) := ⟨fun i => Classical.choose (h1 i), fun i => Classical.choose_spec (h1 i)⟩
    refine ⟨(List.range len).map f, by simp, fun x hx => ?_, fun k x he => ?_⟩
    · obtain ⟨i, _, rfl⟩ := List.mem_map.1 hx
      exact (hf i).1
    rw [List.getElem?_map] at he
    obtain ⟨i, hi, rfl⟩ := Option.map_eq_some_iff.1 he
    obtain ⟨hk, rfl⟩ : k < len ∧ k = i := by
      obtain ⟨h3, h4⟩ := List.getElem?_eq_some_iff.1 hi
      simp at h3 h4
      exact ⟨h3, h4⟩
    have hc := (hf k).2 hk
    obtain ⟨b, off, spot⟩ := ad
    have c1 : W.cell? ((⟨b, off, spot⟩ : Addr).add 0) = some (.int .u8 ((f 0 : Nat) : Int)) := (hf 0).2 (by omega)
    have hspot : spot = none := by simpa [Addr.add] using World.cell?_spot c1
    subst hspot
    rw [Lib.add_plain] at hc
    exact ⟨b, off, rfl, World.block_lt_of_cell? _ _ hc, hc⟩
end Go.Proofs.YtjclhjijpailoaaGreatDoor
