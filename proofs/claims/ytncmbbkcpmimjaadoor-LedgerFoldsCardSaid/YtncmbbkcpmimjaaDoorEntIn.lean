/- An entry that came in: its numbers, and its bytes. -/
import Derived.Test.YtncmbbkcpmimjaaDoorLedIn
import Derived.Test.YtncmbbkcpmimjaaDoorLedC
namespace Go.Proofs.YtncmbbkcpmimjaaDoor
open Go.ChangeShapes Go.WideShapes Go.ChangeAt Go.RowKit Law
set_option linter.unusedVariables false
section
variable {H : Type} {enc : TypeId × Value → H} {P : Program} {w : World} {base : Nat} {spare : Nat → Bool} {held : Bool}
theorem slice_of_trod {n fuel : Nat} {t e : TypeId} {ks : List FK} {cs : List Value} {x : DataW H × List MemPlace} (ht : P.underlying t = some (.slice e)) (hk : flat P n e = some ks) (hC : P.cellsOf e = ks.length)
    (h : DataW.trod enc P w base spare held fuel t cs = some x) :
    ∃ (a : Option Addr) (len cap : Nat), cs = [.slice a len cap] ∧ len ≤ cap ∧ cap ≤ maxLen ∧ (a = none → cap = 0) ∧ ∀ ad, a = some ad → ∀ i, i < len → ∃ cs : List Value, Fit ks cs ∧ ∀ j v, cs[j]? = some v → w.cell? (ad.add (i * ks.length + j)) = some v := by
  rcases Go.Deep.open_slice ht h with ⟨hcs, hx⟩ | ⟨a, len, cap, m, n', D, Pl, hcs, hb, hl, hm, hmm, hx, hi⟩
  · exact ⟨none, 0, 0, hcs, Nat.le_refl _, by simp [maxLen], fun _ => rfl, fun ad h => by cases h⟩
  · refine ⟨some a, len, cap, hcs, hl, hm, (fun h => by cases h), fun ad had i hlt => ?_⟩
    cases had
    obtain ⟨cs', hc, ht'⟩ := hi i (by rw [hmm]; split <;> omega)
    refine ⟨cs', fit_of_trod hk ht', fun j v hj => ?_⟩
    obtain ⟨_, hcl, hat⟩ := World.cells?_some hc
    have hjl : j < cs'.length := (List.getElem?_eq_some_iff.1 hj).1
    have h2 := hat j (by omega)
    rw [hC] at h2
    rw [← Go.Deep.add_add, h2, hj]
end
abbrev enKinds : List FK := [.inl .i64, .inl .i64, .inl .i64, .inl .u32, .inr 2]
theorem enFlat : flat Tryd.prog 8 31 = some enKinds := by kernel_rfl
theorem u8Flat : flat Tryd.prog 8 5 = some [.inl .u8] := by kernel_rfl
theorem u8_of {W : World} {A : Option Addr} {len : Nat} (hnil : A = none → len = 0) (h : ∀ ad, A = some ad → ∀ i, i < len → ∃ cs : List Value, Fit [.inl .u8] cs ∧ ∀ j v, cs[j]? = some v → W.cell? (ad.add (i * 1 + j)) = some v) :
    ∃ b : List UInt8, b.length = len ∧ U8At W A b := by
  cases A with
  | none => exact ⟨[], (hnil rfl).symm, fun k e he => by simp at he⟩
  | some ad =>
    have h1 : ∀ i, ∃ c : UInt8, i < len → W.cell? (ad.add i) = some (.int .u8 (c.toNat : Int)) := fun i => by
      by_cases hi : i < len
      · obtain ⟨cs, hf, hc⟩ := h ad rfl i hi
        obtain ⟨z, us, rfl, wz, hf⟩ := hf.int
        have hz : 0 ≤ z ∧ z ≤ 255 := by simpa [Lit.wf, IntKind.min, IntKind.max, IntKind.signed, IntKind.bits] using wz
        have := hc 0 _ rfl
        rw [Nat.mul_one, Nat.add_zero] at this
        refine ⟨UInt8.ofNat z.toNat, fun _ => ?_⟩
        rw [this]
        have e : (UInt8.ofNat z.toNat).toNat = z.toNat := by
          rw [UInt8.toNat_ofNat']
          omega
        rw [e, show ((z.toNat : Nat) : Int) = z by omega]
      · exact ⟨0, fun h' => absurd h' hi⟩
    obtain ⟨f, hf⟩ : ∃ f : Nat → UInt8, ∀ i, i < len → W.cell? (ad.add i) = some (.int .u8 ((f i).toNat : Int)) := ⟨fun i => Classical.choose (h1 i), fun i => Classical.choose_spec (h1 i)⟩
    refine ⟨(List.range len).map f, by simp, fun k e he => ?_⟩
    rw [List.getElem?_map] at he
    obtain ⟨i, hi, rfl⟩ := Option.map_eq_some_iff.1 he
    obtain ⟨hk, rfl⟩ : k < len ∧ k = i := by
      obtain ⟨h3, h4⟩ := List.getElem?_eq_some_iff.1 hi
      simp at h3 h4
      exact ⟨h3, h4⟩
    have hc := hf k hk
    obtain ⟨b, off, spot⟩ := ad
    have c1 : W.cell? ((⟨b, off, spot⟩ : Addr).add 0) = some (.int .u8 ((f 0).toNat : Int)) := hf 0 (by omega)
    have hspot : spot = none := by simpa [Addr.add] using World.cell?_spot c1
    subst hspot
    exact ⟨b, off, rfl, by rwa [Lib.add_plain] at hc⟩
section
variable {H : Type} {enc : TypeId × Value → H} {W : World} {base : Nat} {spare : Nat → Bool} {held : Bool}
set_option maxRecDepth 100000 in
/-- An entry, opened. -/
theorem open_entry {v : Value} {d : DataW H} {p : List MemPlace} {r : Reach} {b0 : Nat} (hv : Value.okWide Tryd.prog W r b0 31 v) (h : DataW.Trod enc Tryd.prog W base spare held 31 v d p) :
    ∃ (e : En) (A : Option Addr) (len cap : Nat) (b : List UInt8), v = EnV e A len cap ∧ e.Fits ∧ len ≤ cap ∧ cap ≤ maxLen ∧ (A = none → cap = 0) ∧ b.length = len ∧ U8At W A b := by
  obtain ⟨cs, rfl, hf⟩ := open_flat (n := 8) (ks := enKinds) enFlat (.inl ⟨_, Tryd.underlying31⟩) hv h
  obtain ⟨z0, us, rfl, w0, hf⟩ := hf.int
  obtain ⟨z1, us, rfl, w1, hf⟩ := hf.int
  obtain ⟨z2, us, rfl, w2, hf⟩ := hf.int
  obtain ⟨z3, us, rfl, w3, hf⟩ := hf.int
  obtain ⟨s, us2, rfl, hf5⟩ := hf.any
  obtain rfl := hf5.nil
  obtain ⟨fuel, ht⟩ := h
  obtain ⟨xs, m, _, _, _, hxl, hfs⟩ := DataW.trod_struct Tryd.underlying31 ht
  have h2 := hfs 2 _ rfl
  have hx2 : ∃ y, xs[2]? = some y := ⟨xs[2]'(by rw [hxl]; decide), List.getElem?_eq_getElem _⟩
  obtain ⟨y, hy⟩ := hx2
  rw [hy] at h2
  have hcut : ((((.int .i64 z0 :: .int .i64 z1 :: .int .i64 z2 :: .int .u32 z3 :: s :: ([] : List Value)).toArray).toList.drop 4).take 1) = [s] := rfl
  have hC1 : Tryd.prog.cellsOf 29 = 1 := by kernel_rfl
  obtain ⟨A, len, cap, hcs, hlc, hcm, hnil, hcells⟩ := slice_of_trod (n := 8) (ks := [.inl .u8]) Tryd.underlying29 u8Flat (by kernel_rfl) (show DataW.trod enc Tryd.prog W base spare held m 29 _ = some y from h2)
  have hs : s = .slice A len cap := by
    have : [s] = [Value.slice A len cap] := by
      rw [← hcs]
      show [s] = List.take (Tryd.prog.cellsOf 29) [s]
      rw [hC1]
      rfl
    injection this
  subst hs
  obtain ⟨b, hbl, hb⟩ := u8_of (fun h => by have := hnil h; omega) hcells
  have hw0 : -9223372036854775808 ≤ z1 ∧ z1 ≤ 9223372036854775807 := by simpa [Lit.wf, IntKind.min, IntKind.max, IntKind.signed, IntKind.bits] using w1
  have hw2 : -9223372036854775808 ≤ z2 ∧ z2 ≤ 9223372036854775807 := by simpa [Lit.wf, IntKind.min, IntKind.max, IntKind.signed, IntKind.bits] using w2
  have hw3 : 0 ≤ z3 ∧ z3 ≤ 4294967295 := by simpa [Lit.wf, IntKind.min, IntKind.max, IntKind.signed, IntKind.bits] using w3
  refine ⟨⟨z0, z1, z2, z3.toNat⟩, A, len, cap, b, ?_, ⟨hw0.1, hw0.2, hw2.1, hw2.2, by show z3.toNat < _; omega⟩, hlc, hcm, hnil, hbl, hb⟩
  unfold EnV
  rw [show ((z3.toNat : Nat) : Int) = z3 by omega]
end
end Go.Proofs.YtncmbbkcpmimjaaDoor
