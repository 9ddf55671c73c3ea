/- A configuration with its rho, and a script, opened. -/
import Derived.Test.YtbgbehlmpheaeaaGreatDoorCfgJ
import Derived.Test.YtbgbehlmpheaeaaGreatDoorWoZ
namespace Go.Proofs.YtbgbehlmpheaeaaGreatDoor
open Go.ChangeShapes Go.WideShapes Go.ChangeAt Go.RowKit Law
set_option linter.unusedVariables false
set_option linter.unusedSimpArgs false
section
variable {H : Type} {enc : TypeId × Value → H} {W : World} {base : Nat} {spare : Nat → Bool} {held : Bool}
set_option maxRecDepth 100000 in
/-- A configuration, opened. -/
theorem open_cfgR {v : Value} {d : DataW H} {p : List MemPlace} {r : Reach} {b0 : Nat} (hv : Value.okWide Tryz.prog W r b0 24 v) (h : DataW.Trod enc Tryz.prog W base spare held 24 v d p) :
    ∃ (c : Cn) (A : Option Addr) (len cap : Nat) (L : List Pr), v = .agg (c.cells A len cap).toArray ∧ len ≤ cap ∧ cap ≤ maxLen ∧ (A = none → cap = 0) ∧ L.length = len ∧ LinksAt W A L ∧ (∀ q ∈ L, PrF q) ∧ -9223372036854775808 ≤ c.rho ∧ c.rho ≤ 9223372036854775807 := by
  obtain ⟨cs, rfl, hf⟩ := open_flat (n := 8) (ks := cnKinds) cnFlat (.inl ⟨_, Tryz.underlying24⟩) hv h
  obtain ⟨z0, us, rfl, w0, hf⟩ := hf.int
  obtain ⟨s, us2, rfl, hf5⟩ := hf.any
  clear hf
  obtain ⟨z1, us, rfl, w1, hf⟩ := hf5.int
  obtain ⟨z2, us, rfl, w2, hf⟩ := hf.int
  obtain ⟨z3, us, rfl, w3, hf⟩ := hf.int
  obtain ⟨z4, us, rfl, w4, hf⟩ := hf.int
  obtain ⟨z5, us, rfl, w5, hf⟩ := hf.int
  obtain ⟨z6, us, rfl, w6, hf⟩ := hf.int
  obtain ⟨z7, us, rfl, w7, hf⟩ := hf.int
  obtain ⟨z8, us, rfl, w8, hf⟩ := hf.int
  obtain ⟨z9, us, rfl, w9, hf⟩ := hf.int
  obtain ⟨z10, us, rfl, w10, hf⟩ := hf.int
  obtain ⟨z11, us, rfl, w11, hf⟩ := hf.int
  obtain ⟨z12, us, rfl, w12, hf⟩ := hf.int
  obtain ⟨z13, us, rfl, w13, hf⟩ := hf.int
  obtain rfl := hf.nil
  obtain ⟨fuel, ht⟩ := h
  obtain ⟨xs, m, _, _, _, hxl, hfs⟩ := DataW.trod_struct Tryz.underlying24 ht
  have h2 := hfs 1 _ rfl
  have hx2 : ∃ y, xs[1]? = some y := ⟨xs[1]'(by rw [hxl]; decide), List.getElem?_eq_getElem _⟩
  obtain ⟨y, hy⟩ := hx2
  rw [hy] at h2
  have hC1 : Tryz.prog.cellsOf 22 = 1 := by kernel_rfl
  obtain ⟨A, len, cap, hcs, hlc, hcm, hnil, hcells⟩ := slice_of_trod (n := 8) (ks := [.inl .i64, .inl .i64]) Tryz.underlying22 prFlat (by kernel_rfl) (show DataW.trod enc Tryz.prog W base spare held m 22 _ = some y from h2)
  have hs : s = .slice A len cap := by
    have : [s] = [Value.slice A len cap] := by
      rw [← hcs]
      show [s] = List.take (Tryz.prog.cellsOf 22) [s, .int .i64 z1, .int .i64 z2, .int .i64 z3, .int .i64 z4, .int .i64 z5, .int .i64 z6, .int .i64 z7, .int .i64 z8, .int .i64 z9, .int .i64 z10, .int .i64 z11, .int .i64 z12, .int .i64 z13]
      rw [hC1]
      rfl
    injection this
  subst hs
  obtain ⟨L, hLl, hLA, hLF⟩ := pr_of (fun h => by have := hnil h; omega) hcells
  have hr4 : -9223372036854775808 ≤ z4 ∧ z4 ≤ 9223372036854775807 := by simpa [Lit.wf, IntKind.min, IntKind.max, IntKind.signed, IntKind.bits] using w4
  exact ⟨⟨z0, z1, z2, z3, z4, z5, z6, z7, z8, z9, z10, z11, z12, z13⟩, A, len, cap, L, rfl, hlc, hcm, hnil, hLl, hLA, hLF, hr4.1, hr4.2⟩
end
def Ac0 : Ac := ⟨0, 0, 0, Fa0, []⟩
abbrev acKinds : List FK := [.inl .i64, .inl .i64, .inl .i64, .inl .i64, .inl .i64, .inl .i64, .inl .u32, .inl .u32, .inr 2]
theorem acFlat : flat Tryz.prog 8 35 = some acKinds := by kernel_rfl
theorem u8Flat : flat Tryz.prog 8 5 = some [.inl .u8] := by kernel_rfl
theorem u8_of {W : World} {A : Option Addr} {len : Nat} (hnil : A = none → len = 0) (h : ∀ ad, A = some ad → ∀ i, i < len → ∃ cs : List Value, Fit [.inl .u8] cs ∧ ∀ j v, cs[j]? = some v → W.cell? (ad.add (i * 1 + j)) = some v) :
    ∃ b : List UInt8, b.length = len ∧ U8At W A b := by
  cases A with
  | none => exact ⟨[], (hnil rfl).symm, fun k e he => by simp at he⟩
  | some ad =>
    have h1 : ∀ i, ∃ c : UInt8, i < len → W.cell? (ad.add i) = some (.int .u8 (c.toNat : Int)) := fun i => by
      by_cases hi : i < len
      · obtain ⟨cs, hf, hc⟩ := h ad rfl i hi
        obtain ⟨z, us, rfl, wz, hf⟩ := hf.int
        have hz : 0 ≤ z ∧ z ≤ 255 := by simpa [Lit.wf, IntKind.min, IntKind.max, IntKind.signed, IntKind.bits] using wz
        have := hc 0 _ rfl
        rw [Nat.mul_one, Nat.add_zero] at this
        refine ⟨UInt8.ofNat z.toNat, fun _ => ?_⟩
        rw [this]
        have e : (UInt8.ofNat z.toNat).toNat = z.toNat := by
          rw [UInt8.toNat_ofNat']
          omega
        rw [e, show ((z.toNat : Nat) : Int) = z by omega]
      · exact ⟨0, fun h' => absurd h' hi⟩
    obtain ⟨f, hf⟩ : ∃ f : Nat → UInt8, ∀ i, i < len → W.cell? (ad.add i) = some (.int .u8 ((f i).toNat : Int)) := ⟨fun i => Classical.choose (h1 i), fun i => Classical.choose_spec (h1 i)⟩
    refine ⟨(List.range len).map f, by simp, fun k e he => ?_⟩
    rw [List.getElem?_map] at he
    obtain ⟨i, hi, rfl⟩ := Option.map_eq_some_iff.1 he
    obtain ⟨hk, rfl⟩ : k < len ∧ k = i := by
      obtain ⟨h3, h4⟩ := List.getElem?_eq_some_iff.1 hi
      simp at h3 h4
      exact ⟨h3, h4⟩
    have hc := hf k hk
    obtain ⟨b, off, spot⟩ := ad
    have c1 : W.cell? ((⟨b, off, spot⟩ : Addr).add 0) = some (.int .u8 ((f 0).toNat : Int)) := hf 0 (by omega)
    have hspot : spot = none := by simpa [Addr.add] using World.cell?_spot c1
    subst hspot
    exact ⟨b, off, rfl, by rwa [Lib.add_plain] at hc⟩
section
variable {H : Type} {enc : TypeId × Value → H} {w : World} {base : Nat} {spare : Nat → Bool} {held : Bool}
set_option maxRecDepth 100000 in
/-- One act, out of its reading. -/
theorem act_of_trod {fuel : Nat} {cs : List Value} {x : DataW H × List MemPlace} (ht : DataW.trod enc Tryz.prog w base spare held fuel 35 cs = some x) : ∃ y : Aw, y.In ∧ cs = y.cells ∧ U8At w y.A y.a.b := by
  have hf := fit_of_trod (n := 8) (ks := acKinds) acFlat ht
  obtain ⟨z0, us, rfl, w0, hf⟩ := hf.int
  obtain ⟨z1, us, rfl, w1, hf⟩ := hf.int
  obtain ⟨z2, us, rfl, w2, hf⟩ := hf.int
  obtain ⟨z3, us, rfl, w3, hf⟩ := hf.int
  obtain ⟨z4, us, rfl, w4, hf⟩ := hf.int
  obtain ⟨z5, us, rfl, w5, hf⟩ := hf.int
  obtain ⟨z6, us, rfl, w6, hf⟩ := hf.int
  obtain ⟨z7, us, rfl, w7, hf⟩ := hf.int
  obtain ⟨s, us2, rfl, hf5⟩ := hf.any
  obtain rfl := hf5.nil
  obtain ⟨xs, m, _, _, _, hxl, hfs⟩ := DataW.trod_struct Tryz.underlying35 ht
  have h2 := hfs 4 _ rfl
  have hx2 : ∃ y, xs[4]? = some y := ⟨xs[4]'(by rw [hxl]; decide), List.getElem?_eq_getElem _⟩
  obtain ⟨y, hy⟩ := hx2
  rw [hy] at h2
  have hC1 : Tryz.prog.cellsOf 33 = 1 := by kernel_rfl
  obtain ⟨A, len, cap, hcs, hlc, hcm, hnil, hcells⟩ := slice_of_trod (n := 8) (ks := [.inl .u8]) Tryz.underlying33 u8Flat (by kernel_rfl) (show DataW.trod enc Tryz.prog w base spare held m 33 _ = some y from h2)
  have hs : s = .slice A len cap := by
    have : [s] = [Value.slice A len cap] := by
      rw [← hcs]
      show [s] = List.take (Tryz.prog.cellsOf 33) [s]
      rw [hC1]
      rfl
    injection this
  subst hs
  obtain ⟨b, hbl, hb⟩ := u8_of (fun h => by have := hnil h; omega) hcells
  have hw0 : -9223372036854775808 ≤ z0 ∧ z0 ≤ 9223372036854775807 := by simpa [Lit.wf, IntKind.min, IntKind.max, IntKind.signed, IntKind.bits] using w0
  have hw1 : -9223372036854775808 ≤ z1 ∧ z1 ≤ 9223372036854775807 := by simpa [Lit.wf, IntKind.min, IntKind.max, IntKind.signed, IntKind.bits] using w1
  have hw2 : -9223372036854775808 ≤ z2 ∧ z2 ≤ 9223372036854775807 := by simpa [Lit.wf, IntKind.min, IntKind.max, IntKind.signed, IntKind.bits] using w2
  have hw3 : -9223372036854775808 ≤ z3 ∧ z3 ≤ 9223372036854775807 := by simpa [Lit.wf, IntKind.min, IntKind.max, IntKind.signed, IntKind.bits] using w3
  have hw4 : -9223372036854775808 ≤ z4 ∧ z4 ≤ 9223372036854775807 := by simpa [Lit.wf, IntKind.min, IntKind.max, IntKind.signed, IntKind.bits] using w4
  have hw5 : -9223372036854775808 ≤ z5 ∧ z5 ≤ 9223372036854775807 := by simpa [Lit.wf, IntKind.min, IntKind.max, IntKind.signed, IntKind.bits] using w5
  have hw6 : 0 ≤ z6 ∧ z6 ≤ 4294967295 := by simpa [Lit.wf, IntKind.min, IntKind.max, IntKind.signed, IntKind.bits] using w6
  have hw7 : 0 ≤ z7 ∧ z7 ≤ 4294967295 := by simpa [Lit.wf, IntKind.min, IntKind.max, IntKind.signed, IntKind.bits] using w7
  refine ⟨⟨⟨z0, z1, z2, ⟨z3, z4, z5, z6.toNat, z7.toNat⟩, b⟩, A, len, cap⟩, ⟨⟨⟨hw0.1, hw0.2, hw1.1, hw1.2, hw2.1, hw2.2, hw3.1, hw3.2, hw4.1, hw4.2, hw5.1, hw5.2, by show z6.toNat < _; omega, by show z7.toNat < _; omega⟩, hbl, hlc⟩, hcm, hnil⟩, ?_, hb⟩
  unfold Aw.cells Ac.cells
  show _ = [Value.int .i64 z0, .int .i64 z1, .int .i64 z2, .int .i64 z3, .int .i64 z4, .int .i64 z5, .int .u32 ((z6.toNat : Nat) : Int), .int .u32 ((z7.toNat : Nat) : Int), .slice A len cap]
  rw [show ((z6.toNat : Nat) : Int) = z6 by omega, show ((z7.toNat : Nat) : Int) = z7 by omega]
/-- The list, out of its reading. -/
theorem acts_of_trod {fuel : Nat} {cs : List Value} {x : DataW H × List MemPlace} (h : DataW.trod enc Tryz.prog w base spare held fuel 25 cs = some x) :
    ∃ (A : Option Addr) (len cap : Nat) (xs : List Aw), cs = [.slice A len cap] ∧ len ≤ cap ∧ cap ≤ maxLen ∧ xs.length = len ∧ (∀ x ∈ xs, x.In) ∧ ActsAt w A xs := by
  have hC : Tryz.prog.cellsOf 35 = 9 := by kernel_rfl
  rcases Go.Deep.open_slice Tryz.underlying25 h with ⟨hcs, hx⟩ | ⟨a, len, cap, m, n', D, Pl, hcs, hb, hl, hm, hmm, hx, hi⟩
  · exact ⟨none, 0, 0, [], hcs, Nat.le_refl _, by simp [maxLen], rfl, fun x hx => by simp at hx, fun i x hx => by simp at hx⟩
  · have h1 : ∀ i, ∃ y : Aw, i < len → y.In ∧ (∀ j v, y.cells[j]? = some v → w.cell? (a.add (i * 9 + j)) = some v) ∧ U8At w y.A y.a.b := fun i => by
      by_cases hlt : i < len
      · obtain ⟨cs', hc, ht'⟩ := hi i (by rw [hmm]; split <;> omega)
        obtain ⟨y, hy, rfl, hU⟩ := act_of_trod ht'
        refine ⟨y, fun _ => ⟨hy, fun j v hj => ?_, hU⟩⟩
        obtain ⟨_, hcl, hat⟩ := World.cells?_some hc
        have hjl : j < y.cells.length := (List.getElem?_eq_some_iff.1 hj).1
        have h2 := hat j (by omega)
        rw [hC] at h2
        rw [← Go.Deep.add_add, h2, hj]
      · exact ⟨⟨Ac0, none, 0, 0⟩, fun h => absurd h hlt⟩
    obtain ⟨f, hf⟩ : ∃ f : Nat → Aw, ∀ i, i < len → (f i).In ∧ (∀ j v, (f i).cells[j]? = some v → w.cell? (a.add (i * 9 + j)) = some v) ∧ U8At w (f i).A (f i).a.b := ⟨fun i => Classical.choose (h1 i), fun i => Classical.choose_spec (h1 i)⟩
    refine ⟨some a, len, cap, (List.range len).map f, hcs, hl, hm, by simp, fun x hx => ?_, fun i x hx => ?_⟩
    · obtain ⟨i, hi, rfl⟩ := List.mem_map.1 hx
      exact (hf i (by simpa using hi)).1
    · rw [List.getElem?_map] at hx
      obtain ⟨k, hk, rfl⟩ := Option.map_eq_some_iff.1 hx
      obtain ⟨hil, rfl⟩ : i < len ∧ i = k := by
        obtain ⟨h3, h4⟩ := List.getElem?_eq_some_iff.1 hk
        simp at h3 h4
        exact ⟨h3, h4⟩
      obtain ⟨-, hc, hU⟩ := hf i hil
      obtain ⟨b, off, spot⟩ := a
      have c1 := (hf 0 (by omega)).2.1 0 _ rfl
      have hspot : spot = none := by
        have := World.cell?_spot c1
        simpa [Addr.add] using this
      subst hspot
      exact ⟨b, off, rfl, fun j v hj => by have := hc j v hj; rw [Lib.add_plain, ← Nat.add_assoc] at this; exact this, hU⟩
end
end Go.Proofs.YtbgbehlmpheaeaaGreatDoor
