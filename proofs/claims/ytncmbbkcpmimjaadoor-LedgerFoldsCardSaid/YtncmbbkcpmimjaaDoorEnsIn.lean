/- A list of entries that came in. -/
import Derived.Test.YtncmbbkcpmimjaaDoorFoB
namespace Go.Proofs.YtncmbbkcpmimjaaDoor
open Go.ChangeShapes Go.WideShapes Go.ChangeAt Go.RowKit Law
set_option linter.unusedVariables false
section
variable {H : Type} {enc : TypeId × Value → H} {w : World} {base : Nat} {spare : Nat → Bool} {held : Bool}
set_option maxRecDepth 100000 in
/-- One entry, out of its reading. -/
theorem et_of_trod {fuel : Nat} {cs : List Value} {x : DataW H × List MemPlace} (ht : DataW.trod enc Tryd.prog w base spare held fuel 31 cs = some x) : ∃ y : Et, y.In ∧ cs = y.cells ∧ U8At w y.A y.b := by
  have hf := fit_of_trod (n := 8) (ks := enKinds) enFlat ht
  obtain ⟨z0, us, rfl, w0, hf⟩ := hf.int
  obtain ⟨z1, us, rfl, w1, hf⟩ := hf.int
  obtain ⟨z2, us, rfl, w2, hf⟩ := hf.int
  obtain ⟨z3, us, rfl, w3, hf⟩ := hf.int
  obtain ⟨s, us2, rfl, hf5⟩ := hf.any
  obtain rfl := hf5.nil
  obtain ⟨xs, m, _, _, _, hxl, hfs⟩ := DataW.trod_struct Tryd.underlying31 ht
  have h2 := hfs 2 _ rfl
  have hx2 : ∃ y, xs[2]? = some y := ⟨xs[2]'(by rw [hxl]; decide), List.getElem?_eq_getElem _⟩
  obtain ⟨y, hy⟩ := hx2
  rw [hy] at h2
  have hC1 : Tryd.prog.cellsOf 29 = 1 := by kernel_rfl
  obtain ⟨A, len, cap, hcs, hlc, hcm, hnil, hcells⟩ := slice_of_trod (n := 8) (ks := [.inl .u8]) Tryd.underlying29 u8Flat (by kernel_rfl) (show DataW.trod enc Tryd.prog w base spare held m 29 _ = some y from h2)
  have hs : s = .slice A len cap := by
    have : [s] = [Value.slice A len cap] := by
      rw [← hcs]
      show [s] = List.take (Tryd.prog.cellsOf 29) [s]
      rw [hC1]
      rfl
    injection this
  subst hs
  obtain ⟨b, hbl, hb⟩ := u8_of (fun h => by have := hnil h; omega) hcells
  have hw0 : -9223372036854775808 ≤ z0 ∧ z0 ≤ 9223372036854775807 := by simpa [Lit.wf, IntKind.min, IntKind.max, IntKind.signed, IntKind.bits] using w0
  have hw1 : -9223372036854775808 ≤ z1 ∧ z1 ≤ 9223372036854775807 := by simpa [Lit.wf, IntKind.min, IntKind.max, IntKind.signed, IntKind.bits] using w1
  have hw2 : -9223372036854775808 ≤ z2 ∧ z2 ≤ 9223372036854775807 := by simpa [Lit.wf, IntKind.min, IntKind.max, IntKind.signed, IntKind.bits] using w2
  have hw3 : 0 ≤ z3 ∧ z3 ≤ 4294967295 := by simpa [Lit.wf, IntKind.min, IntKind.max, IntKind.signed, IntKind.bits] using w3
  refine ⟨⟨⟨z0, z1, z2, z3.toNat⟩, A, len, cap, b⟩, ⟨⟨⟨hw1.1, hw1.2, hw2.1, hw2.2, by show z3.toNat < _; omega⟩, hw0.1, hw0.2, hbl, hlc⟩, hcm, hnil⟩, ?_, hb⟩
  unfold Et.cells
  show _ = [Value.int .i64 z0, .int .i64 z1, .int .i64 z2, .int .u32 ((z3.toNat : Nat) : Int), .slice A len cap]
  rw [show ((z3.toNat : Nat) : Int) = z3 by omega]
/-- The list, out of its reading. -/
theorem ens_of_trod {fuel : Nat} {cs : List Value} {x : DataW H × List MemPlace} (h : DataW.trod enc Tryd.prog w base spare held fuel 55 cs = some x) :
    ∃ (A : Option Addr) (len cap : Nat) (xs : List Et), cs = [.slice A len cap] ∧ len ≤ cap ∧ cap ≤ maxLen ∧ xs.length = len ∧ (∀ x ∈ xs, x.In) ∧ EnsAt w A xs := by
  have hC : Tryd.prog.cellsOf 31 = 5 := by kernel_rfl
  rcases Go.Deep.open_slice Tryd.underlying55 h with ⟨hcs, hx⟩ | ⟨a, len, cap, m, n', D, Pl, hcs, hb, hl, hm, hmm, hx, hi⟩
  · exact ⟨none, 0, 0, [], hcs, Nat.le_refl _, by simp [maxLen], rfl, fun x hx => by simp at hx, fun i x hx => by simp at hx⟩
  · have h1 : ∀ i, ∃ y : Et, i < len → y.In ∧ (∀ j v, y.cells[j]? = some v → w.cell? (a.add (i * 5 + j)) = some v) ∧ U8At w y.A y.b := fun i => by
      by_cases hlt : i < len
      · obtain ⟨cs', hc, ht'⟩ := hi i (by rw [hmm]; split <;> omega)
        obtain ⟨y, hy, rfl, hU⟩ := et_of_trod ht'
        refine ⟨y, fun _ => ⟨hy, fun j v hj => ?_, hU⟩⟩
        obtain ⟨_, hcl, hat⟩ := World.cells?_some hc
        have hjl : j < y.cells.length := (List.getElem?_eq_some_iff.1 hj).1
        have h2 := hat j (by omega)
        rw [hC] at h2
        rw [← Go.Deep.add_add, h2, hj]
      · exact ⟨⟨⟨0, 0, 0, 0⟩, none, 0, 0, []⟩, fun h => absurd h hlt⟩
    obtain ⟨f, hf⟩ : ∃ f : Nat → Et, ∀ i, i < len → (f i).In ∧ (∀ j v, (f i).cells[j]? = some v → w.cell? (a.add (i * 5 + j)) = some v) ∧ U8At w (f i).A (f i).b := ⟨fun i => Classical.choose (h1 i), fun i => Classical.choose_spec (h1 i)⟩
    refine ⟨some a, len, cap, (List.range len).map f, hcs, hl, hm, by simp, fun x hx => ?_, fun i x hx => ?_⟩
    · obtain ⟨i, hi, rfl⟩ := List.mem_map.1 hx
      exact (hf i (by simpa using hi)).1
    · rw [List.getElem?_map] at hx
      obtain ⟨k, hk, rfl⟩ := Option.map_eq_some_iff.1 hx
      obtain ⟨hil, rfl⟩ : i < len ∧ i = k := by
        obtain ⟨h3, h4⟩ := List.getElem?_eq_some_iff.1 hk
        simp at h3 h4
        exact ⟨h3, h4⟩
      obtain ⟨-, hc, hU⟩ := hf i hil
      obtain ⟨b, off, spot⟩ := a
      have c1 := (hf 0 (by omega)).2.1 0 _ rfl
      have hspot : spot = none := by
        have := World.cell?_spot c1
        simpa [Addr.add] using this
      subst hspot
      exact ⟨b, off, rfl, fun j v hj => by have := hc j v hj; rw [Lib.add_plain, ← Nat.add_assoc] at this; exact this, hU⟩
end
end Go.Proofs.YtncmbbkcpmimjaaDoor
