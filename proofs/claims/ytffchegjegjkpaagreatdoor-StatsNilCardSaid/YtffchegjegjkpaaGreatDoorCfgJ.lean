/- A configuration that came in, and its links; a row of bytes that came in. -/
import Derived.Test.YtffchegjegjkpaaGreatDoorGrB
namespace Go.Proofs.YtffchegjegjkpaaGreatDoor
open Go.ChangeShapes Go.WideShapes Go.ChangeAt Go.RowKit Law
set_option linter.unusedVariables false
set_option linter.unusedSimpArgs false
section
variable {H : Type} {enc : TypeId × Value → H} {P : Program} {w : World} {base : Nat} {spare : Nat → Bool} {held : Bool}
theorem slice_of_trod {n fuel : Nat} {t e : TypeId} {ks : List FK} {cs : List Value} {x : DataW H × List MemPlace} (ht : P.underlying t = some (.slice e)) (hk : flat P n e = some ks) (hC : P.cellsOf e = ks.length)
    (h : DataW.trod enc P w base spare held fuel t cs = some x) :
    ∃ (a : Option Addr) (len cap : Nat), cs = [.slice a len cap] ∧ len ≤ cap ∧ cap ≤ maxLen ∧ (a = none → cap = 0) ∧ ∀ ad, a = some ad → ∀ i, i < len → ∃ cs : List Value, Fit ks cs ∧ ∀ j v, cs[j]? = some v → w.cell? (ad.add (i * ks.length + j)) = some v := by
  rcases Go.Deep.open_slice ht h with ⟨hcs, hx⟩ | ⟨a, len, cap, m, n', D, Pl, hcs, hb, hl, hm, hmm, hx, hi⟩
  · exact ⟨none, 0, 0, hcs, Nat.le_refl _, by simp [maxLen], fun _ => rfl, fun ad h => by cases h⟩
  · refine ⟨some a, len, cap, hcs, hl, hm, (fun h => by cases h), fun ad had i hlt => ?_⟩
    cases had
    obtain ⟨cs', hc, ht'⟩ := hi i (by rw [hmm]; split <;> omega)
    refine ⟨cs', fit_of_trod hk ht', fun j v hj => ?_⟩
    obtain ⟨_, hcl, hat⟩ := World.cells?_some hc
    have hjl : j < cs'.length := (List.getElem?_eq_some_iff.1 hj).1
    have h2 := hat j (by omega)
    rw [hC] at h2
    rw [← Go.Deep.add_add, h2, hj]
end
abbrev cnKinds : List FK := [.inl .i64, .inr 2, .inl .i64, .inl .i64, .inl .i64, .inl .i64, .inl .i64, .inl .i64, .inl .i64, .inl .i64, .inl .i64, .inl .i64, .inl .i64, .inl .i64, .inl .i64]
theorem cnFlat : flat Tryz.prog 8 24 = some cnKinds := by kernel_rfl
theorem prFlat : flat Tryz.prog 8 114 = some [.inl .i64, .inl .i64] := by kernel_rfl
theorem pr_of {W : World} {A : Option Addr} {len : Nat} (hnil : A = none → len = 0) (h : ∀ ad, A = some ad → ∀ i, i < len → ∃ cs : List Value, Fit [.inl .i64, .inl .i64] cs ∧ ∀ j v, cs[j]? = some v → W.cell? (ad.add (i * 2 + j)) = some v) :
    ∃ L : List Pr, L.length = len ∧ LinksAt W A L ∧ ∀ p ∈ L, PrF p := by
  cases A with
  | none => exact ⟨[], (hnil rfl).symm, fun k e he => by simp at he, fun p hp => by simp at hp⟩
  | some ad =>
    have h1 : ∀ i, ∃ p : Pr, (i < len → W.cell? (ad.add (i * 2)) = some (.int .i64 p.1) ∧ W.cell? (ad.add (i * 2 + 1)) = some (.int .i64 p.2)) ∧ PrF p := fun i => by
      by_cases hi : i < len
      · obtain ⟨cs, hf, hc⟩ := h ad rfl i hi
        obtain ⟨x, us, rfl, wx, hf⟩ := hf.int
        obtain ⟨y, us, rfl, wy, hf⟩ := hf.int
        have hx : -9223372036854775808 ≤ x ∧ x ≤ 9223372036854775807 := by simpa [Lit.wf, IntKind.min, IntKind.max, IntKind.signed, IntKind.bits] using wx
        have hy : -9223372036854775808 ≤ y ∧ y ≤ 9223372036854775807 := by simpa [Lit.wf, IntKind.min, IntKind.max, IntKind.signed, IntKind.bits] using wy
        refine ⟨(x, y), fun _ => ⟨?_, ?_⟩, ?_⟩
        · have := hc 0 _ rfl; rwa [Nat.add_zero] at this
        · exact hc 1 _ rfl
        · unfold PrF; simp only; omega
      · exact ⟨(0, 0), fun h' => absurd h' hi, by unfold PrF; simp⟩
    obtain ⟨f, hf⟩ : ∃ f : Nat → Pr, ∀ i, (i < len → W.cell? (ad.add (i * 2)) = some (.int .i64 (f i).1) ∧ W.cell? (ad.add (i * 2 + 1)) = some (.int .i64 (f i).2)) ∧ PrF (f i) := ⟨fun i => Classical.choose (h1 i), fun i => Classical.choose_spec (h1 i)⟩
    refine ⟨(List.range len).map f, by simp, fun k e he => ?_, fun p hp => ?_⟩
    · rw [List.getElem?_map] at he
      obtain ⟨i, hi, rfl⟩ := Option.map_eq_some_iff.1 he
      obtain ⟨hk, rfl⟩ : k < len ∧ k = i := by
        obtain ⟨h3, h4⟩ := List.getElem?_eq_some_iff.1 hi
        simp at h3 h4
        exact ⟨h3, h4⟩
      obtain ⟨c0, c1⟩ := (hf k).1 hk
      obtain ⟨b, off, spot⟩ := ad
      have c00 := ((hf 0).1 (by omega)).1
      have hspot : spot = none := by simpa [Addr.add] using World.cell?_spot c00
      subst hspot
      rw [Lib.add_plain] at c0 c1
      refine ⟨b, off, rfl, World.block_lt_of_cell? _ _ c0, fun j v hj => ?_⟩
      match j, hj with
      | 0, hj => simp [Pr.cells] at hj; subst hj; exact c0
      | 1, hj => simp [Pr.cells] at hj; subst hj; rw [Nat.add_assoc]; exact c1
      | j + 2, hj => simp [Pr.cells] at hj
    · obtain ⟨i, _, rfl⟩ := List.mem_map.1 hp
      exact (hf i).2
section
variable {H : Type} {enc : TypeId × Value → H} {W : World} {base : Nat} {spare : Nat → Bool} {held : Bool}
set_option maxRecDepth 100000 in
/-- A configuration, opened. -/
theorem open_cfg {v : Value} {d : DataW H} {p : List MemPlace} {r : Reach} {b0 : Nat} (hv : Value.okWide Tryz.prog W r b0 24 v) (h : DataW.Trod enc Tryz.prog W base spare held 24 v d p) :
    ∃ (c : Cn) (A : Option Addr) (len cap : Nat) (L : List Pr), v = .agg (c.cells A len cap).toArray ∧ len ≤ cap ∧ cap ≤ maxLen ∧ (A = none → cap = 0) ∧ L.length = len ∧ LinksAt W A L ∧ ∀ q ∈ L, PrF q := by
  obtain ⟨cs, rfl, hf⟩ := open_flat (n := 8) (ks := cnKinds) cnFlat (.inl ⟨_, Tryz.underlying24⟩) hv h
  obtain ⟨z0, us, rfl, w0, hf⟩ := hf.int
  obtain ⟨s, us2, rfl, hf5⟩ := hf.any
  clear hf
  obtain ⟨z1, us, rfl, w1, hf⟩ := hf5.int
  obtain ⟨z2, us, rfl, w2, hf⟩ := hf.int
  obtain ⟨z3, us, rfl, w3, hf⟩ := hf.int
  obtain ⟨z4, us, rfl, w4, hf⟩ := hf.int
  obtain ⟨z5, us, rfl, w5, hf⟩ := hf.int
  obtain ⟨z6, us, rfl, w6, hf⟩ := hf.int
  obtain ⟨z7, us, rfl, w7, hf⟩ := hf.int
  obtain ⟨z8, us, rfl, w8, hf⟩ := hf.int
  obtain ⟨z9, us, rfl, w9, hf⟩ := hf.int
  obtain ⟨z10, us, rfl, w10, hf⟩ := hf.int
  obtain ⟨z11, us, rfl, w11, hf⟩ := hf.int
  obtain ⟨z12, us, rfl, w12, hf⟩ := hf.int
  obtain ⟨z13, us, rfl, w13, hf⟩ := hf.int
  obtain rfl := hf.nil
  obtain ⟨fuel, ht⟩ := h
  obtain ⟨xs, m, _, _, _, hxl, hfs⟩ := DataW.trod_struct Tryz.underlying24 ht
  have h2 := hfs 1 _ rfl
  have hx2 : ∃ y, xs[1]? = some y := ⟨xs[1]'(by rw [hxl]; decide), List.getElem?_eq_getElem _⟩
  obtain ⟨y, hy⟩ := hx2
  rw [hy] at h2
  have hC1 : Tryz.prog.cellsOf 22 = 1 := by kernel_rfl
  obtain ⟨A, len, cap, hcs, hlc, hcm, hnil, hcells⟩ := slice_of_trod (n := 8) (ks := [.inl .i64, .inl .i64]) Tryz.underlying22 prFlat (by kernel_rfl) (show DataW.trod enc Tryz.prog W base spare held m 22 _ = some y from h2)
  have hs : s = .slice A len cap := by
    have : [s] = [Value.slice A len cap] := by
      rw [← hcs]
      show [s] = List.take (Tryz.prog.cellsOf 22) [s, .int .i64 z1, .int .i64 z2, .int .i64 z3, .int .i64 z4, .int .i64 z5, .int .i64 z6, .int .i64 z7, .int .i64 z8, .int .i64 z9, .int .i64 z10, .int .i64 z11, .int .i64 z12, .int .i64 z13]
      rw [hC1]
      rfl
    injection this
  subst hs
  obtain ⟨L, hLl, hLA, hLF⟩ := pr_of (fun h => by have := hnil h; omega) hcells
  exact ⟨⟨z0, z1, z2, z3, z4, z5, z6, z7, z8, z9, z10, z11, z12, z13⟩, A, len, cap, L, rfl, hlc, hcm, hnil, hLl, hLA, hLF⟩
end
end Go.Proofs.YtffchegjegjkpaaGreatDoor
