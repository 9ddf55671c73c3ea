/- What several texts of this seat lean on, joined: AwA WoJ WoK WoL WoM. -/
import Derived.Test.YtbgbehlmpheaeaaGreatDoorActM
import Derived.Test.YtbgbehlmpheaeaaGreatDoorActF
import Derived.Test.YtbgbehlmpheaeaaGreatDoorCfF
import Derived.Test.YtbgbehlmpheaeaaGreatDoorBase
import Derived.Test.YtbgbehlmpheaeaaGreatDoorNdM
namespace Go.Proofs.YtbgbehlmpheaeaaGreatDoor
open Go.RowKit Law
set_option linter.unusedVariables false
set_option linter.unusedSimpArgs false

/-- An act as it lies: its numbers, its body's slice, the body's bytes. -/
structure Aw where
  a : Ac
  A : Option Addr
  n : Nat
  c : Nat
def Aw.cells (x : Aw) : List Value := x.a.cells x.A x.n x.c
structure Ac.Fits (x : Ac) : Prop where
  k0 : -9223372036854775808 ≤ x.k
  k1 : x.k ≤ 9223372036854775807
  i0 : -9223372036854775808 ≤ x.node
  i1 : x.node ≤ 9223372036854775807
  n0 : -9223372036854775808 ≤ x.n
  n1 : x.n ≤ 9223372036854775807
  fk0 : -9223372036854775808 ≤ x.f.k
  fk1 : x.f.k ≤ 9223372036854775807
  d0 : -9223372036854775808 ≤ x.f.d
  d1 : x.f.d ≤ 9223372036854775807
  a0 : -9223372036854775808 ≤ x.f.a
  a1 : x.f.a ≤ 9223372036854775807
  p : x.f.p < 4294967296
  b : x.f.b < 4294967296
structure Aw.Ok (x : Aw) : Prop where
  fits : x.a.Fits
  len : x.a.b.length = x.n
  cap : x.n ≤ x.c
structure Aw.In (x : Aw) : Prop where
  ok : x.Ok
  max : x.c ≤ maxLen
  nil : x.A = none → x.c = 0
/-- A list of acts at an address. -/
def ActsAt (w : World) (A : Option Addr) (xs : List Aw) : Prop := ∀ (i : Nat) (x : Aw), xs[i]? = some x → ∃ blk off, A = some ⟨blk, off, none⟩ ∧ (∀ j v, x.cells[j]? = some v → w.cell? ⟨blk, off + i * 9 + j, none⟩ = some v) ∧ U8At w x.A x.a.b
theorem ActsAt.keep {w w' : World} {A : Option Addr} {xs : List Aw} (h : ActsAt w A xs) (hb : Below w.heap.size w w') : ActsAt w' A xs := fun i x hx => by
  obtain ⟨blk, off, rfl, hc, hU⟩ := h i x hx
  exact ⟨blk, off, rfl, fun j v hj => (hb.cell (p := ⟨blk, off + i * 9 + j, none⟩) (World.block_lt_of_cell? _ _ (hc j v hj))).trans (hc j v hj), hU.keep hb⟩
theorem ActsAt.take {w : World} {A : Option Addr} {xs : List Aw} (h : ActsAt w A xs) (n : Nat) : ActsAt w A (xs.take n) := fun i x hx => h i x (by
  rw [List.getElem?_take] at hx
  split at hx
  · exact hx
  · cases hx)
theorem ActsAt.nil (w : World) (A : Option Addr) : ActsAt w A [] := fun i x h => by simp at h
def flatA (ys : List Aw) : List Value := (ys.map Aw.cells).flatten
theorem flatA_snoc (ys : List Aw) (y : Aw) : flatA (ys ++ [y]) = flatA ys ++ y.cells := by simp [flatA]
theorem flatA_len : ∀ ys : List Aw, (flatA ys).length = ys.length * 9
  | [] => rfl
  | y :: ys => by
    have := flatA_len ys
    show (y.cells ++ flatA ys).length = _
    rw [List.length_append, this, List.length_cons]
    show 9 + _ = _
    omega
theorem flatA_at : ∀ (ys : List Aw) (i : Nat) (y : Aw), ys[i]? = some y → ∀ j v, y.cells[j]? = some v → (flatA ys)[i * 9 + j]? = some v
  | z :: ys, 0, y, h, j, v, hj => by
    obtain rfl : z = y := by simpa using h
    have hl : j < z.cells.length := (List.getElem?_eq_some_iff.1 hj).1
    show (z.cells ++ flatA ys)[0 * 9 + j]? = _
    rw [Nat.zero_mul, Nat.zero_add, List.getElem?_append_left hl]
    exact hj
  | z :: ys, i + 1, y, h, j, v, hj => by
    have := flatA_at ys i y (by simpa using h) j v hj
    show (z.cells ++ flatA ys)[(i + 1) * 9 + j]? = _
    have hz : z.cells.length = 9 := rfl
    rw [List.getElem?_append_right (by omega), hz, show (i + 1) * 9 + j - 9 = i * 9 + j by omega]
    exact this
theorem flatA_one {ys : List Aw} : ∀ u ∈ flatA ys, u.oneCell' = true := by
  intro u hu
  obtain ⟨l, hl, hu⟩ := List.mem_flatten.1 hu
  obtain ⟨y, _, rfl⟩ := List.mem_map.1 hl
  simp [Aw.cells, Ac.cells] at hu
  rcases hu with rfl | rfl | rfl | rfl | rfl | rfl | rfl | rfl | rfl <;> rfl

end Go.Proofs.YtbgbehlmpheaeaaGreatDoor

namespace Go.Proofs.YtbgbehlmpheaeaaGreatDoor
open Go.RowKit Law
set_option linter.unusedVariables false
set_option linter.unusedSimpArgs false
set_option maxRecDepth 100000

set_option maxHeartbeats 3200000 in
theorem idxNone1 {w : World} {A : Option Addr} {xs : List Aw} {n cp : Nat} (hA : ActsAt w A xs) (hn : xs.length = n) (hm : n ≤ 1000000) (B : Nat) (test : Ac → Bool)
    (hc : ∀ x ∈ xs, ∀ W, Below w.heap.size w W → Calls Tryz.prog 8 #[.agg x.cells.toArray, .pointer (some ⟨B, 0, none⟩)] W fun e w' => e = .returned (.bool (test x.a)) ∧ Below W.heap.size W w') (hany : ∀ x ∈ xs, test x.a = false) :
    Calls Tryz.prog 27 #[.slice A n cp, .func (.func 8) #[] #[.pointer (some ⟨B, 0, none⟩)]] w fun e w' => e = .returned (.int .i64 (-1)) ∧ Below w.heap.size w w' := by
  have HA := Lib.hid hA
  have HN := Lib.hid hn
  have HC := Lib.hid hc
  have HH := Lib.hid hany
  have hm2 : (n : Int) ≤ 1000000 := by omega
  clear hA hn hc hany hm
  go_enter Tryz.func27, Tryz.ntmps27
  go_wp2
  go_loopw [5, 8] (fun a i wr => ∃ j : Nat, j ≤ n ∧ i = .int .i64 (j : Int) ∧ (∀ q x, q < j → xs[q]? = some x → test x.a = false) ∧ Below w.heap.size w wr) (fun _ i _ => n - (intOf i).toNat)
  case atStart => exact ⟨0, Nat.zero_le _, rfl, fun q x h => absurd h (Nat.not_lt_zero _), Below.refl _ _⟩
  case round =>
    obtain ⟨j, hj, rfl, hno, hB⟩ := hrel
    by_cases hlt : j < n
    · have hltI : (j : Int) < (n : Int) := by omega
      have hjl : j < xs.length := by rw [HN.out]; exact hlt
      obtain ⟨x, hx⟩ : ∃ x, xs[j]? = some x := ⟨_, List.getElem?_eq_getElem hjl⟩
      have hmem : x ∈ xs := List.mem_of_getElem? hx
      obtain ⟨blk, off, rfl, hcell, -⟩ := (HA.out.keep hB) j x hx
      have C1 := HC.out x hmem wr hB
      have HX := Lib.hid (And.intro hx (And.intro hno (And.intro hB hmem)))
      obtain ⟨⟨k, node, m, ⟨fk, fd, fa, fp, fb⟩, bb⟩, A2, n2, c2⟩ := x
      simp only [Aw.cells, Ac.cells] at C1 hcell
      have C1 := Lib.hid C1
      have z0 := hcell 0 _ rfl
      have z1 := hcell 1 _ rfl
      have z2 := hcell 2 _ rfl
      have z3 := hcell 3 _ rfl
      have z4 := hcell 4 _ rfl
      have z5 := hcell 5 _ rfl
      have z6 := hcell 6 _ rfl
      have z7 := hcell 7 _ rfl
      have z8 := hcell 8 _ rfl
      simp only [Nat.add_zero] at z0
      clear hcell hx hno hB hmem hjl
      cases htest : test ⟨k, node, m, ⟨fk, fd, fa, fp, fb⟩, bb⟩ with
      | false =>
        rw [htest] at C1
        have HT := Lib.hid htest
        clear htest
        go_wp2_with fail
        refine C1.out.mono ?_
        rintro e w2 ⟨rfl, hb2⟩
        have HF : Hid ((∀ q x, q < j + 1 → xs[q]? = some x → test x.a = false) ∧ Below w.heap.size w w2) := by
          refine ⟨fun q x hq hx => ?_, HX.out.2.2.1.trans (hb2.mono HX.out.2.2.1.size)⟩
          rcases Nat.lt_or_ge q j with h1 | h1
          · exact HX.out.2.1 q x h1 hx
          · obtain rfl : q = j := by omega
            rw [HX.out.1] at hx
            obtain rfl := Option.some.inj hx
            exact HT.out
        clear hb2 z0 z1 z2 z3 z4 z5 z6 z7 z8
        go_wp2
        go_roundw
        case rel => exact ⟨j + 1, by omega, by go_num, HF.out.1, HF.out.2⟩
        case measure => simp [intOf]; omega
      | true =>
        have := HH.out _ HX.out.2.2.2
        rw [htest] at this
        cases this
    · obtain rfl : j = n := by omega
      have HB := Lib.hid hB
      clear hno hB
      go_wp2
      go_ret
      exact ⟨rfl, HB.out⟩
set_option maxHeartbeats 3200000 in
theorem idxSome1 {w : World} {A : Option Addr} {xs : List Aw} {n cp : Nat} (hA : ActsAt w A xs) (hn : xs.length = n) (hm : n ≤ 1000000) (B : Nat) (test : Ac → Bool)
    (hc : ∀ x ∈ xs, ∀ W, Below w.heap.size w W → Calls Tryz.prog 8 #[.agg x.cells.toArray, .pointer (some ⟨B, 0, none⟩)] W fun e w' => e = .returned (.bool (test x.a)) ∧ Below W.heap.size W w') (hany : ∃ x ∈ xs, test x.a = true) :
    Calls Tryz.prog 27 #[.slice A n cp, .func (.func 8) #[] #[.pointer (some ⟨B, 0, none⟩)]] w fun e w' => (∃ j : Nat, e = .returned (.int .i64 (j : Int))) ∧ Below w.heap.size w w' := by
  have HA := Lib.hid hA
  have HN := Lib.hid hn
  have HC := Lib.hid hc
  have HH := Lib.hid hany
  have hm2 : (n : Int) ≤ 1000000 := by omega
  clear hA hn hc hany hm
  go_enter Tryz.func27, Tryz.ntmps27
  go_wp2
  go_loopw [5, 8] (fun a i wr => ∃ j : Nat, j ≤ n ∧ i = .int .i64 (j : Int) ∧ (∀ q x, q < j → xs[q]? = some x → test x.a = false) ∧ Below w.heap.size w wr) (fun _ i _ => n - (intOf i).toNat)
  case atStart => exact ⟨0, Nat.zero_le _, rfl, fun q x h => absurd h (Nat.not_lt_zero _), Below.refl _ _⟩
  case round =>
    obtain ⟨j, hj, rfl, hno, hB⟩ := hrel
    by_cases hlt : j < n
    · have hltI : (j : Int) < (n : Int) := by omega
      have hjl : j < xs.length := by rw [HN.out]; exact hlt
      obtain ⟨x, hx⟩ : ∃ x, xs[j]? = some x := ⟨_, List.getElem?_eq_getElem hjl⟩
      have hmem : x ∈ xs := List.mem_of_getElem? hx
      obtain ⟨blk, off, rfl, hcell, -⟩ := (HA.out.keep hB) j x hx
      have C1 := HC.out x hmem wr hB
      have HX := Lib.hid (And.intro hx (And.intro hno (And.intro hB hmem)))
      obtain ⟨⟨k, node, m, ⟨fk, fd, fa, fp, fb⟩, bb⟩, A2, n2, c2⟩ := x
      simp only [Aw.cells, Ac.cells] at C1 hcell
      have C1 := Lib.hid C1
      have z0 := hcell 0 _ rfl
      have z1 := hcell 1 _ rfl
      have z2 := hcell 2 _ rfl
      have z3 := hcell 3 _ rfl
      have z4 := hcell 4 _ rfl
      have z5 := hcell 5 _ rfl
      have z6 := hcell 6 _ rfl
      have z7 := hcell 7 _ rfl
      have z8 := hcell 8 _ rfl
      simp only [Nat.add_zero] at z0
      clear hcell hx hno hB hmem hjl
      cases htest : test ⟨k, node, m, ⟨fk, fd, fa, fp, fb⟩, bb⟩ with
      | false =>
        rw [htest] at C1
        have HT := Lib.hid htest
        clear htest
        go_wp2_with fail
        refine C1.out.mono ?_
        rintro e w2 ⟨rfl, hb2⟩
        have HF : Hid ((∀ q x, q < j + 1 → xs[q]? = some x → test x.a = false) ∧ Below w.heap.size w w2) := by
          refine ⟨fun q x hq hx => ?_, HX.out.2.2.1.trans (hb2.mono HX.out.2.2.1.size)⟩
          rcases Nat.lt_or_ge q j with h1 | h1
          · exact HX.out.2.1 q x h1 hx
          · obtain rfl : q = j := by omega
            rw [HX.out.1] at hx
            obtain rfl := Option.some.inj hx
            exact HT.out
        clear hb2 z0 z1 z2 z3 z4 z5 z6 z7 z8
        go_wp2
        go_roundw
        case rel => exact ⟨j + 1, by omega, by go_num, HF.out.1, HF.out.2⟩
        case measure => simp [intOf]; omega
      | true =>
        rw [htest] at C1
        clear htest
        go_wp2_with fail
        refine C1.out.mono ?_
        rintro e w2 ⟨rfl, hb2⟩
        have HF : Hid (Below w.heap.size w w2) := HX.out.2.2.1.trans (hb2.mono HX.out.2.2.1.size)
        clear hb2 z0 z1 z2 z3 z4 z5 z6 z7 z8
        go_wp2
        go_ret
        exact ⟨⟨j, rfl⟩, HF.out⟩
    · obtain rfl : j = n := by omega
      obtain ⟨x, hx, ht⟩ := HH.out
      obtain ⟨q, hq, rfl⟩ := List.getElem_of_mem hx
      have := hno q _ (by rw [← HN.out]; exact hq) (List.getElem?_eq_getElem hq)
      rw [ht] at this
      cases this
set_option maxHeartbeats 3200000 in
theorem idxNone2 {w : World} {A : Option Addr} {xs : List Aw} {n cp : Nat} (hA : ActsAt w A xs) (hn : xs.length = n) (hm : n ≤ 1000000) (B : Nat) (test : Ac → Bool)
    (hc : ∀ x ∈ xs, ∀ W, Below w.heap.size w W → Calls Tryz.prog 11 #[.agg x.cells.toArray, .pointer (some ⟨B, 0, none⟩)] W fun e w' => e = .returned (.bool (test x.a)) ∧ Below W.heap.size W w') (hany : ∀ x ∈ xs, test x.a = false) :
    Calls Tryz.prog 27 #[.slice A n cp, .func (.func 11) #[] #[.pointer (some ⟨B, 0, none⟩)]] w fun e w' => e = .returned (.int .i64 (-1)) ∧ Below w.heap.size w w' := by
  have HA := Lib.hid hA
  have HN := Lib.hid hn
  have HC := Lib.hid hc
  have HH := Lib.hid hany
  have hm2 : (n : Int) ≤ 1000000 := by omega
  clear hA hn hc hany hm
  go_enter Tryz.func27, Tryz.ntmps27
  go_wp2
  go_loopw [5, 8] (fun a i wr => ∃ j : Nat, j ≤ n ∧ i = .int .i64 (j : Int) ∧ (∀ q x, q < j → xs[q]? = some x → test x.a = false) ∧ Below w.heap.size w wr) (fun _ i _ => n - (intOf i).toNat)
  case atStart => exact ⟨0, Nat.zero_le _, rfl, fun q x h => absurd h (Nat.not_lt_zero _), Below.refl _ _⟩
  case round =>
    obtain ⟨j, hj, rfl, hno, hB⟩ := hrel
    by_cases hlt : j < n
    · have hltI : (j : Int) < (n : Int) := by omega
      have hjl : j < xs.length := by rw [HN.out]; exact hlt
      obtain ⟨x, hx⟩ : ∃ x, xs[j]? = some x := ⟨_, List.getElem?_eq_getElem hjl⟩
      have hmem : x ∈ xs := List.mem_of_getElem? hx
      obtain ⟨blk, off, rfl, hcell, -⟩ := (HA.out.keep hB) j x hx
      have C1 := HC.out x hmem wr hB
      have HX := Lib.hid (And.intro hx (And.intro hno (And.intro hB hmem)))
      obtain ⟨⟨k, node, m, ⟨fk, fd, fa, fp, fb⟩, bb⟩, A2, n2, c2⟩ := x
      simp only [Aw.cells, Ac.cells] at C1 hcell
      have C1 := Lib.hid C1
      have z0 := hcell 0 _ rfl
      have z1 := hcell 1 _ rfl
      have z2 := hcell 2 _ rfl
      have z3 := hcell 3 _ rfl
      have z4 := hcell 4 _ rfl
      have z5 := hcell 5 _ rfl
      have z6 := hcell 6 _ rfl
      have z7 := hcell 7 _ rfl
      have z8 := hcell 8 _ rfl
      simp only [Nat.add_zero] at z0
      clear hcell hx hno hB hmem hjl
      cases htest : test ⟨k, node, m, ⟨fk, fd, fa, fp, fb⟩, bb⟩ with
      | false =>
        rw [htest] at C1
        have HT := Lib.hid htest
        clear htest
        go_wp2_with fail
        refine C1.out.mono ?_
        rintro e w2 ⟨rfl, hb2⟩
        have HF : Hid ((∀ q x, q < j + 1 → xs[q]? = some x → test x.a = false) ∧ Below w.heap.size w w2) := by
          refine ⟨fun q x hq hx => ?_, HX.out.2.2.1.trans (hb2.mono HX.out.2.2.1.size)⟩
          rcases Nat.lt_or_ge q j with h1 | h1
          · exact HX.out.2.1 q x h1 hx
          · obtain rfl : q = j := by omega
            rw [HX.out.1] at hx
            obtain rfl := Option.some.inj hx
            exact HT.out
        clear hb2 z0 z1 z2 z3 z4 z5 z6 z7 z8
        go_wp2
        go_roundw
        case rel => exact ⟨j + 1, by omega, by go_num, HF.out.1, HF.out.2⟩
        case measure => simp [intOf]; omega
      | true =>
        have := HH.out _ HX.out.2.2.2
        rw [htest] at this
        cases this
    · obtain rfl : j = n := by omega
      have HB := Lib.hid hB
      clear hno hB
      go_wp2
      go_ret
      exact ⟨rfl, HB.out⟩
set_option maxHeartbeats 3200000 in
theorem idxSome2 {w : World} {A : Option Addr} {xs : List Aw} {n cp : Nat} (hA : ActsAt w A xs) (hn : xs.length = n) (hm : n ≤ 1000000) (B : Nat) (test : Ac → Bool)
    (hc : ∀ x ∈ xs, ∀ W, Below w.heap.size w W → Calls Tryz.prog 11 #[.agg x.cells.toArray, .pointer (some ⟨B, 0, none⟩)] W fun e w' => e = .returned (.bool (test x.a)) ∧ Below W.heap.size W w') (hany : ∃ x ∈ xs, test x.a = true) :
    Calls Tryz.prog 27 #[.slice A n cp, .func (.func 11) #[] #[.pointer (some ⟨B, 0, none⟩)]] w fun e w' => (∃ j : Nat, e = .returned (.int .i64 (j : Int))) ∧ Below w.heap.size w w' := by
  have HA := Lib.hid hA
  have HN := Lib.hid hn
  have HC := Lib.hid hc
  have HH := Lib.hid hany
  have hm2 : (n : Int) ≤ 1000000 := by omega
  clear hA hn hc hany hm
  go_enter Tryz.func27, Tryz.ntmps27
  go_wp2
  go_loopw [5, 8] (fun a i wr => ∃ j : Nat, j ≤ n ∧ i = .int .i64 (j : Int) ∧ (∀ q x, q < j → xs[q]? = some x → test x.a = false) ∧ Below w.heap.size w wr) (fun _ i _ => n - (intOf i).toNat)
  case atStart => exact ⟨0, Nat.zero_le _, rfl, fun q x h => absurd h (Nat.not_lt_zero _), Below.refl _ _⟩
  case round =>
    obtain ⟨j, hj, rfl, hno, hB⟩ := hrel
    by_cases hlt : j < n
    · have hltI : (j : Int) < (n : Int) := by omega
      have hjl : j < xs.length := by rw [HN.out]; exact hlt
      obtain ⟨x, hx⟩ : ∃ x, xs[j]? = some x := ⟨_, List.getElem?_eq_getElem hjl⟩
      have hmem : x ∈ xs := List.mem_of_getElem? hx
      obtain ⟨blk, off, rfl, hcell, -⟩ := (HA.out.keep hB) j x hx
      have C1 := HC.out x hmem wr hB
      have HX := Lib.hid (And.intro hx (And.intro hno (And.intro hB hmem)))
      obtain ⟨⟨k, node, m, ⟨fk, fd, fa, fp, fb⟩, bb⟩, A2, n2, c2⟩ := x
      simp only [Aw.cells, Ac.cells] at C1 hcell
      have C1 := Lib.hid C1
      have z0 := hcell 0 _ rfl
      have z1 := hcell 1 _ rfl
      have z2 := hcell 2 _ rfl
      have z3 := hcell 3 _ rfl
      have z4 := hcell 4 _ rfl
      have z5 := hcell 5 _ rfl
      have z6 := hcell 6 _ rfl
      have z7 := hcell 7 _ rfl
      have z8 := hcell 8 _ rfl
      simp only [Nat.add_zero] at z0
      clear hcell hx hno hB hmem hjl
      cases htest : test ⟨k, node, m, ⟨fk, fd, fa, fp, fb⟩, bb⟩ with
      | false =>
        rw [htest] at C1
        have HT := Lib.hid htest
        clear htest
        go_wp2_with fail
        refine C1.out.mono ?_
        rintro e w2 ⟨rfl, hb2⟩
        have HF : Hid ((∀ q x, q < j + 1 → xs[q]? = some x → test x.a = false) ∧ Below w.heap.size w w2) := by
          refine ⟨fun q x hq hx => ?_, HX.out.2.2.1.trans (hb2.mono HX.out.2.2.1.size)⟩
          rcases Nat.lt_or_ge q j with h1 | h1
          · exact HX.out.2.1 q x h1 hx
          · obtain rfl : q = j := by omega
            rw [HX.out.1] at hx
            obtain rfl := Option.some.inj hx
            exact HT.out
        clear hb2 z0 z1 z2 z3 z4 z5 z6 z7 z8
        go_wp2
        go_roundw
        case rel => exact ⟨j + 1, by omega, by go_num, HF.out.1, HF.out.2⟩
        case measure => simp [intOf]; omega
      | true =>
        rw [htest] at C1
        clear htest
        go_wp2_with fail
        refine C1.out.mono ?_
        rintro e w2 ⟨rfl, hb2⟩
        have HF : Hid (Below w.heap.size w w2) := HX.out.2.2.1.trans (hb2.mono HX.out.2.2.1.size)
        clear hb2 z0 z1 z2 z3 z4 z5 z6 z7 z8
        go_wp2
        go_ret
        exact ⟨⟨j, rfl⟩, HF.out⟩
    · obtain rfl : j = n := by omega
      obtain ⟨x, hx, ht⟩ := HH.out
      obtain ⟨q, hq, rfl⟩ := List.getElem_of_mem hx
      have := hno q _ (by rw [← HN.out]; exact hq) (List.getElem?_eq_getElem hq)
      rw [ht] at this
      cases this
theorem containsF1 {w : World} {A : Option Addr} {xs : List Aw} {n cp : Nat} (hA : ActsAt w A xs) (hn : xs.length = n) (hm : n ≤ 1000000) (B : Nat) (test : Ac → Bool)
    (hc : ∀ x ∈ xs, ∀ W, Below w.heap.size w W → Calls Tryz.prog 8 #[.agg x.cells.toArray, .pointer (some ⟨B, 0, none⟩)] W fun e w' => e = .returned (.bool (test x.a)) ∧ Below W.heap.size W w') :
    Calls Tryz.prog 14 #[.slice A n cp, .func (.func 8) #[] #[.pointer (some ⟨B, 0, none⟩)]] w fun e w' => e = .returned (.bool (xs.any fun x => test x.a)) ∧ Below w.heap.size w w' := by
  cases ha : xs.any fun x => test x.a with
  | false =>
    have C1 := Lib.hid (idxNone1 (cp := cp) hA hn hm B test hc (fun x hx => by simpa using List.any_eq_false.1 ha x hx))
    clear hA hn hm hc ha
    go_enter Tryz.func14, Tryz.ntmps14
    go_wp2_with fail
    refine C1.out.mono ?_
    rintro e w2 ⟨rfl, hb2⟩
    have HB := Lib.hid hb2
    clear hb2
    go_wp2
    go_ret
    exact ⟨rfl, HB.out⟩
  | true =>
    have C1 := Lib.hid (idxSome1 (cp := cp) hA hn hm B test hc (by simpa using List.any_eq_true.1 ha))
    clear hA hn hm hc ha
    go_enter Tryz.func14, Tryz.ntmps14
    go_wp2_with fail
    refine C1.out.mono ?_
    rintro e w2 ⟨⟨j, rfl⟩, hb2⟩
    have HB := Lib.hid hb2
    clear hb2
    go_wp2
    go_ret
    exact ⟨ret_bool (by simp), HB.out⟩
theorem containsF2 {w : World} {A : Option Addr} {xs : List Aw} {n cp : Nat} (hA : ActsAt w A xs) (hn : xs.length = n) (hm : n ≤ 1000000) (B : Nat) (test : Ac → Bool)
    (hc : ∀ x ∈ xs, ∀ W, Below w.heap.size w W → Calls Tryz.prog 11 #[.agg x.cells.toArray, .pointer (some ⟨B, 0, none⟩)] W fun e w' => e = .returned (.bool (test x.a)) ∧ Below W.heap.size W w') :
    Calls Tryz.prog 14 #[.slice A n cp, .func (.func 11) #[] #[.pointer (some ⟨B, 0, none⟩)]] w fun e w' => e = .returned (.bool (xs.any fun x => test x.a)) ∧ Below w.heap.size w w' := by
  cases ha : xs.any fun x => test x.a with
  | false =>
    have C1 := Lib.hid (idxNone2 (cp := cp) hA hn hm B test hc (fun x hx => by simpa using List.any_eq_false.1 ha x hx))
    clear hA hn hm hc ha
    go_enter Tryz.func14, Tryz.ntmps14
    go_wp2_with fail
    refine C1.out.mono ?_
    rintro e w2 ⟨rfl, hb2⟩
    have HB := Lib.hid hb2
    clear hb2
    go_wp2
    go_ret
    exact ⟨rfl, HB.out⟩
  | true =>
    have C1 := Lib.hid (idxSome2 (cp := cp) hA hn hm B test hc (by simpa using List.any_eq_true.1 ha))
    clear hA hn hm hc ha
    go_enter Tryz.func14, Tryz.ntmps14
    go_wp2_with fail
    refine C1.out.mono ?_
    rintro e w2 ⟨⟨j, rfl⟩, hb2⟩
    have HB := Lib.hid hb2
    clear hb2
    go_wp2
    go_ret
    exact ⟨ret_bool (by simp), HB.out⟩
def aboutB (x : Ac) : Bool := decide (x.k ≠ 1) && decide (x.k ≠ 3)
def badB (n : Int) (x : Ac) : Bool := !goodA x || (aboutB x && decide (n ≤ x.node))
def fairB (d rho : Int) : Bool := decide (0 ≤ rho) && (decide (-rho ≤ d) && decide (d ≤ rho))
def wildB (rho : Int) (x : Ac) : Bool := decide (x.k = 2) && !fairB x.n rho
end Go.Proofs.YtbgbehlmpheaeaaGreatDoor

namespace Go.Proofs.YtbgbehlmpheaeaaGreatDoor
open Go.RowKit Law
set_option linter.unusedVariables false
set_option linter.unusedSimpArgs false
set_option maxRecDepth 100000

theorem rateFair (d rho : Int) (h1 : -9223372036854775808 ≤ rho) (h2 : rho ≤ 9223372036854775807) (w : World) : Calls Tryz.prog 12 #[.int .i64 d, .int .i64 rho] w fun e w' => e = .returned (.bool (fairB d rho)) ∧ w = w' := by
  by_cases h0 : 0 ≤ rho
  · by_cases h3 : -rho ≤ d
    · by_cases h4 : d ≤ rho
      · have E : Hid (fairB d rho = true) := by unfold Hid fairB; simp [h0, h3, h4]
        have hw : IntKind.i64.wrap (-rho) = -rho := IntWalk.i64_in _ (by omega)
        go_enter Tryz.func12, Tryz.ntmps12
        go_wp2
        go_ret
        exact ⟨ret_bool (by rw [E.out]), rfl⟩
      · have E : Hid (fairB d rho = false) := by unfold Hid fairB; simp [h4]
        have hw : IntKind.i64.wrap (-rho) = -rho := IntWalk.i64_in _ (by omega)
        go_enter Tryz.func12, Tryz.ntmps12
        go_wp2
        go_ret
        exact ⟨ret_bool (by rw [E.out]), rfl⟩
    · have E : Hid (fairB d rho = false) := by unfold Hid fairB; simp [h3]
      have hw : IntKind.i64.wrap (-rho) = -rho := IntWalk.i64_in _ (by omega)
      go_enter Tryz.func12, Tryz.ntmps12
      go_wp2
      go_ret
      exact ⟨ret_bool (by rw [E.out]), rfl⟩
  · have E : Hid (fairB d rho = false) := by unfold Hid fairB; simp [h0]
    go_enter Tryz.func12, Tryz.ntmps12
    go_wp2
    go_ret
    exact ⟨ret_bool (by rw [E.out]), rfl⟩
theorem admAbout (x : Aw) (w : World) : Calls Tryz.prog 10 #[.agg x.cells.toArray] w fun e w' => e = .returned (.bool (aboutB x.a)) ∧ Below w.heap.size w w' := by
  obtain ⟨⟨k, node, m, ⟨fk, fd, fa, fp, fb⟩, bb⟩, A2, n2, c2⟩ := x
  have hb := (Below.refl w.heap.size w).alloc (Nat.le_refl _) (.cells #[.int .i64 k, .int .i64 node, .int .i64 m, .int .i64 fk, .int .i64 fd, .int .i64 fa, .int .u32 (fp : Int), .int .u32 (fb : Int), .slice A2 n2 c2] 35)
  have HB := Lib.hid hb
  clear hb
  show Calls Tryz.prog 10 #[.agg #[.int .i64 k, .int .i64 node, .int .i64 m, .int .i64 fk, .int .i64 fd, .int .i64 fa, .int .u32 (fp : Int), .int .u32 (fb : Int), .slice A2 n2 c2]] w fun e w' => e = .returned (.bool (aboutB ⟨k, node, m, ⟨fk, fd, fa, fp, fb⟩, bb⟩)) ∧ Below w.heap.size w w'
  have E : Hid (aboutB ⟨k, node, m, ⟨fk, fd, fa, fp, fb⟩, bb⟩ = (decide (k ≠ 1) && decide (k ≠ 3))) := rfl
  by_cases h1 : k = 1
  · subst h1
    go_enter Tryz.func10, Tryz.ntmps10
    go_wp2
    go_ret
    exact ⟨ret_bool (by rw [E.out]; simp), HB.out⟩
  · by_cases h3 : k = 3
    · subst h3
      go_enter Tryz.func10, Tryz.ntmps10
      go_wp2
      go_ret
      exact ⟨ret_bool (by rw [E.out]; simp), HB.out⟩
    · have h1b : (k == 1) = false := beq_eq_false_iff_ne.2 h1
      have h3b : (k == 3) = false := beq_eq_false_iff_ne.2 h3
      go_enter Tryz.func10, Tryz.ntmps10
      go_wp2
      go_ret
      exact ⟨ret_bool (by rw [E.out]; simp [h1, h3]), HB.out⟩
/-- Whose crashes a script has. -/
def crashL (xs : List Aw) : List Int := (xs.filter fun x => decide (x.a.k = 4) && goodA x.a).map fun x => x.a.node
def OrPost (S s : Nat) (b : Nat) (w : World) (e : Ending) (w' : World) : Prop := e = .returned (.tuple #[]) ∧ BoxF w' S [.int .u64 ((s ||| b : Nat) : Int)] ∧ FrB S w w'
set_option maxHeartbeats 3200000 in
theorem crash1 (x : Aw) {w : World} {S s : Nat} (hS : BoxF w S [.int .u64 (s : Int)]) (hs : s < 18446744073709551616) (h0 : 0 ≤ x.a.node) (h1 : x.a.node < 64) :
    Calls Tryz.prog 30 #[.agg x.cells.toArray, .pointer (some ⟨S, 0, none⟩)] w (OrPost S s (bitN x.a.node) w) := by
  obtain ⟨⟨k, node, m, ⟨fk, fd, fa, fp, fb⟩, bb⟩, A2, n2, c2⟩ := x
  obtain ⟨q, rfl⟩ : ∃ q : Nat, node = (q : Int) := ⟨node.toNat, by have h : 0 ≤ node := h0; omega⟩
  have hq : q < 64 := by have h : (q : Int) < 64 := h1; omega
  have hE : (bitN (q : Int) : Int) = 2 ^ q := by
    unfold bitN
    rw [if_pos ⟨by omega, by omega⟩]
    simp
  have hp : (2 : Nat) ^ q < 18446744073709551616 := Nat.pow_lt_pow_right (m := q) (n := 64) (by decide) hq
  have hpw := wrap_nat hp
  have hor := bits_or_u64_nat s (bitN (q : Int)) hs (bitN_lt _)
  have hblt := bitN_lt (q : Int)
  have hb := (Below.refl w.heap.size w).alloc (Nat.le_refl _) (.cells #[.int .i64 k, .int .i64 (q : Int), .int .i64 m, .int .i64 fk, .int .i64 fd, .int .i64 fa, .int .u32 (fp : Int), .int .u32 (fb : Int), .slice A2 n2 c2] 35)
  have k1 := boxF_made w [.int .i64 k, .int .i64 (q : Int), .int .i64 m, .int .i64 fk, .int .i64 fd, .int .i64 fa, .int .u32 (fp : Int), .int .u32 (fb : Int), .slice A2 n2 c2] 35
  obtain ⟨w1, hw1⟩ : ∃ w1, w.alloc (.cells #[.int .i64 k, .int .i64 (q : Int), .int .i64 m, .int .i64 fk, .int .i64 fd, .int .i64 fa, .int .u32 (fp : Int), .int .u32 (fb : Int), .slice A2 n2 c2] 35) = w1 := ⟨_, rfl⟩
  rw [hw1] at hb
  replace k1 : BoxF w1 w.heap.size [.int .i64 k, .int .i64 (q : Int), .int .i64 m, .int .i64 fk, .int .i64 fd, .int .i64 fa, .int .u32 (fp : Int), .int .u32 (fb : Int), .slice A2 n2 c2] := hw1 ▸ k1
  have HKC : Hid (∀ X, Below w1.heap.size w1 X → BoxF X S [.int .u64 (s : Int)] ∧ BoxAt X w.heap.size [.int .i64 k, .int .i64 (q : Int), .int .i64 m, .int .i64 fk, .int .i64 fd, .int .i64 fa, .int .u32 (fp : Int), .int .u32 (fb : Int), .slice A2 n2 c2]) := fun X hX => ⟨(hS.keep hb).keep hX, (k1.keep hX).1⟩
  have HD : Hid (Below w1.heap.size w1 w1.drew) := (Below.refl _ _).drew
  have HB := Lib.hid hb
  show Calls Tryz.prog 30 #[.agg #[.int .i64 k, .int .i64 (q : Int), .int .i64 m, .int .i64 fk, .int .i64 fd, .int .i64 fa, .int .u32 (fp : Int), .int .u32 (fb : Int), .slice A2 n2 c2], .pointer (some ⟨S, 0, none⟩)] w (OrPost S s (bitN (q : Int)) w)
  have c0 := (HKC.out _ HD.out).1.1 0 _ rfl
  have f0 := (HKC.out _ HD.out).1.2 0 (by simp)
  have HF : Hid (OrPost S s (bitN (q : Int)) w (.returned (.tuple #[])) (w1.drew.setCell ⟨S, 0, none⟩ (.int .u64 ((s ||| bitN (q : Int) : Nat) : Int)))) := by
    refine ⟨rfl, ?_, ((FrB.of hb).trans (FrB.of HD.out)).trans (FrB.set _ _ _ _)⟩
    have := (HKC.out _ HD.out).1.put 0 (by simp) (.int .u64 ((s ||| bitN (q : Int) : Nat) : Int))
    simpa using this
  rw [hE] at hor
  have HV : Hid (bits .or .u64 (s : Int) (IntKind.u64.wrap (2 ^ q)) = ((s ||| bitN (q : Int) : Nat) : Int)) := by
    have h2 : IntKind.u64.wrap ((2 : Int) ^ q) = (2 : Int) ^ q := by simpa using hpw
    unfold Hid
    rw [h2]
    exact hor
  clear hS hb k1 hE hor hpw
  go_enter Tryz.func30, Tryz.ntmps30
  go_wp2_with fail
  refine wp_region_plan [] [(true, 0), (true, 1), (true, 2), (true, 3), (true, 4)] 5 12 (fun X => Below w1.heap.size w1 X) (by kernel_rfl) (by kernel_rfl) (by intro c a t v w h; exact h) HD.out ?_
  simp only [pickB, pickL, List.drop_succ_cons, List.drop_zero, List.head?_cons, Option.toList_some, List.map_cons, List.map_nil, List.cons_append, List.nil_append]
  refine wpHead_nil ?_
  iterate 5 (refine wpPlan_rd _ (by rfl) (by intro W hW; have hk := HKC.out W hW; have z0 := hk.1.1 0 _ rfl; have z1 := hk.2 1 _ rfl; clear hk hW; go_simp; with_reducible rfl) ?_; simp only [Act.put, List.setIfInBounds_toArray, List.set_cons_zero, List.set_cons_succ])
  refine wpPlan_nil ?_
  go_wp2
  go_end0
  rw [HV.out]
  exact HF.out
end Go.Proofs.YtbgbehlmpheaeaaGreatDoor

namespace Go.Proofs.YtbgbehlmpheaeaaGreatDoor
open Go.RowKit Law
set_option linter.unusedVariables false
set_option linter.unusedSimpArgs false
set_option maxRecDepth 100000

theorem crashL_snoc {xs : List Aw} {j : Nat} {x : Aw} (h : xs[j]? = some x) : crashL (xs.take (j + 1)) = crashL (xs.take j) ++ (if x.a.k = 4 ∧ goodA x.a = true then [x.a.node] else []) := by
  have hj : j < xs.length := (List.getElem?_eq_some_iff.1 h).1
  have hx : xs[j] = x := (List.getElem?_eq_some_iff.1 h).2
  unfold crashL
  rw [List.take_succ_eq_append_getElem hj, List.filter_append, List.map_append, hx]
  congr 1
  by_cases h1 : x.a.k = 4 <;> by_cases h2 : goodA x.a = true <;> simp [h1, h2]
theorem good4 {x : Ac} (hk : x.k = 4) (h : goodA x = true) : 0 ≤ x.node ∧ x.node < 64 := by
  unfold goodA at h
  rw [if_neg (by omega), if_neg (by omega)] at h
  split at h
  · cases h
  · omega
def EachPost (S : Nat) (xs : List Aw) (w0 : World) (e : Ending) (w' : World) : Prop := e = .returned (.tuple #[]) ∧ BoxF w' S [.int .u64 (withN 0 (crashL xs) : Int)] ∧ Below w0.heap.size w0 w'
set_option maxHeartbeats 6400000 in
theorem scriptEach {w0 w : World} {A : Option Addr} {xs : List Aw} {n cp S : Nat} (hA : ActsAt w0 A xs) (hok : ∀ x ∈ xs, x.a.b.length = x.n) (hn : xs.length = n) (hm : n ≤ 1000000) (hb : Below w0.heap.size w0 w) (hS : BoxF w S [.int .u64 0]) (hle : w0.heap.size ≤ S) :
    Calls Tryz.prog 29 #[.slice A n cp, .int .i64 4, .func (.func 30) #[] #[.pointer (some ⟨S, 0, none⟩)]] w (EachPost S xs w0) := by
  have H := Lib.hid (And.intro hA (And.intro hok (And.intro hn (And.intro hb (And.intro hS hle)))))
  have hm2 : (n : Int) ≤ 1000000 := by omega
  clear hA hok hn hb hS hle hm
  go_enter Tryz.func29, Tryz.ntmps29
  go_wp2
  go_loopw [10] (fun i wr => ∃ j : Nat, j ≤ n ∧ i = .int .i64 (j : Int) ∧ BoxF wr S [.int .u64 (withN 0 (crashL (xs.take j)) : Int)] ∧ Below w0.heap.size w0 wr) (fun i _ => n - (intOf i).toNat)
  case atStart => exact ⟨0, Nat.zero_le _, rfl, H.out.2.2.2.2.1, H.out.2.2.2.1⟩
  case round =>
    obtain ⟨j, hj, rfl, hBx, hB⟩ := hrel
    by_cases hlt : j < n
    · have hltI : (j : Int) < (n : Int) := by omega
      have hjl : j < xs.length := by rw [H.out.2.2.1]; exact hlt
      obtain ⟨x, hx⟩ : ∃ x, xs[j]? = some x := ⟨_, List.getElem?_eq_getElem hjl⟩
      have hmem : x ∈ xs := List.mem_of_getElem? hx
      obtain ⟨blk, off, hAe, hcell, hU⟩ := (H.out.1.keep hB) j x hx
      have hlen := H.out.2.1 x hmem
      have HX := Lib.hid (And.intro hx (And.intro hBx (And.intro hB (And.intro hU hlen))))
      have ha : ActsAt wr A xs := H.out.1.keep hB
      have C2 := fun (W : World) (s : Nat) (h1 : BoxF W S [.int .u64 (s : Int)]) (h2 : s < 18446744073709551616) (h3 : 0 ≤ x.a.node) (h4 : x.a.node < 64) => crash1 x h1 h2 h3 h4
      subst hAe
      obtain ⟨⟨k, node, m, ⟨fk, fd, fa, fp, fb⟩, bb⟩, A2, n2, c2⟩ := x
      simp only [Aw.cells, Ac.cells] at hcell C2
      have C2 := Lib.hid C2
      have z0 := hcell 0 _ rfl
      have z1 := hcell 1 _ rfl
      have z2 := hcell 2 _ rfl
      have z3 := hcell 3 _ rfl
      have z4 := hcell 4 _ rfl
      have z5 := hcell 5 _ rfl
      have z6 := hcell 6 _ rfl
      have z7 := hcell 7 _ rfl
      have z8 := hcell 8 _ rfl
      simp only [Nat.add_zero] at z0
      have b1 := (Below.refl wr.heap.size wr).alloc (Nat.le_refl _) (.cells #[.int .i64 k, .int .i64 node, .int .i64 m, .int .i64 fk, .int .i64 fd, .int .i64 fa, .int .u32 (fp : Int), .int .u32 (fb : Int), .slice A2 n2 c2] 35)
      have hbb := hB.trans (b1.mono hB.size)
      have hbx := hBx.keep b1
      have hU1 := hU.keep b1
      obtain ⟨w5, hw5⟩ : ∃ w5, wr.alloc (.cells #[.int .i64 k, .int .i64 node, .int .i64 m, .int .i64 fk, .int .i64 fd, .int .i64 fa, .int .u32 (fp : Int), .int .u32 (fb : Int), .slice A2 n2 c2] 35) = w5 := ⟨_, rfl⟩
      rw [hw5] at hbb hbx hU1
      have k1 : BoxF w5 wr.heap.size [.int .i64 k, .int .i64 node, .int .i64 m, .int .i64 fk, .int .i64 fd, .int .i64 fa, .int .u32 (fp : Int), .int .u32 (fb : Int), .slice A2 n2 c2] := hw5 ▸ boxF_made wr [.int .i64 k, .int .i64 node, .int .i64 m, .int .i64 fk, .int .i64 fd, .int .i64 fa, .int .u32 (fp : Int), .int .u32 (fb : Int), .slice A2 n2 c2] 35
      have y0 := k1.1 0 _ rfl
      have y1 := k1.1 1 _ rfl
      have y2 := k1.1 2 _ rfl
      have y3 := k1.1 3 _ rfl
      have y4 := k1.1 4 _ rfl
      have y5 := k1.1 5 _ rfl
      have y6 := k1.1 6 _ rfl
      have y7 := k1.1 7 _ rfl
      have y8 := k1.1 8 _ rfl
      have HK := Lib.hid (And.intro hbb (And.intro hbx (And.intro hU1 k1)))
      clear hcell hx hBx hB hmem hjl hU hlen ha b1 hU1 k1 hbb hbx
      by_cases hk : k = 4
      · subst hk
        cases hg : goodA ⟨4, node, m, ⟨fk, fd, fa, fp, fb⟩, bb⟩ with
        | false =>
          have CG := Lib.hid (scriptGoodV ⟨4, node, m, ⟨fk, fd, fa, fp, fb⟩, bb⟩ A2 n2 c2 false hg w5 HK.out.2.2.1 HX.out.2.2.2.2)
          have HG := Lib.hid hg
          clear hg
          go_wp2_with fail
          refine CG.out.mono ?_
          rintro e w6 ⟨rfl, hb6⟩
          have HF : Hid (BoxF w6 S [.int .u64 (withN 0 (crashL (xs.take (j + 1))) : Int)] ∧ Below w0.heap.size w0 w6) := by
            rw [crashL_snoc HX.out.1, if_neg (fun h => by have h2 := h.2; rw [HG.out] at h2; cases h2), List.append_nil]
            exact ⟨HK.out.2.1.keep hb6, HK.out.1.trans (hb6.mono HK.out.1.size)⟩
          clear hb6 z0 z1 z2 z3 z4 z5 z6 z7 z8 y0 y1 y2 y3 y4 y5 y6 y7 y8 hw5
          go_wp2
          go_roundw
          case rel => exact ⟨j + 1, by omega, by go_num, HF.out.1, HF.out.2⟩
          case measure => simp [intOf]; omega
        | true =>
          have CG := Lib.hid (scriptGoodV ⟨4, node, m, ⟨fk, fd, fa, fp, fb⟩, bb⟩ A2 n2 c2 true hg w5 HK.out.2.2.1 HX.out.2.2.2.2)
          have HG := Lib.hid hg
          clear hg
          go_wp2_with fail
          refine CG.out.mono ?_
          rintro e w6 ⟨rfl, hb6⟩
          have k6 := HK.out.2.2.2.keep hb6
          have x0 := k6.1 0 _ rfl
          have x1 := k6.1 1 _ rfl
          have x2 := k6.1 2 _ rfl
          have x3 := k6.1 3 _ rfl
          have x4 := k6.1 4 _ rfl
          have x5 := k6.1 5 _ rfl
          have x6 := k6.1 6 _ rfl
          have x7 := k6.1 7 _ rfl
          have x8 := k6.1 8 _ rfl
          have H6 := Lib.hid (And.intro (HK.out.2.1.keep hb6) (HK.out.1.trans (hb6.mono HK.out.1.size)))
          have hnb := good4 (x := ⟨4, node, m, ⟨fk, fd, fa, fp, fb⟩, bb⟩) rfl HG.out
          have C3 := Lib.hid (C2.out w6 (withN 0 (crashL (xs.take j))) H6.out.1 (withN_lt _ _ (by decide)) hnb.1 hnb.2)
          clear hb6 k6 hnb z0 z1 z2 z3 z4 z5 z6 z7 z8 y0 y1 y2 y3 y4 y5 y6 y7 y8 hw5
          go_wp2_with fail
          refine C3.out.mono ?_
          rintro e w7 ⟨rfl, hbx, F7⟩
          have HF : Hid (BoxF w7 S [.int .u64 (withN 0 (crashL (xs.take (j + 1))) : Int)] ∧ Below w0.heap.size w0 w7) := by
            rw [crashL_snoc HX.out.1, if_pos ⟨rfl, HG.out⟩, withN_snoc]
            exact ⟨hbx, H6.out.2.trans (F7.below H.out.2.2.2.2.2 H6.out.2.size)⟩
          clear hbx F7 x0 x1 x2 x3 x4 x5 x6 x7 x8
          go_wp2
          go_roundw
          case rel => exact ⟨j + 1, by omega, by go_num, HF.out.1, HF.out.2⟩
          case measure => simp [intOf]; omega
      · have hk4 : (k == 4) = false := beq_eq_false_iff_ne.2 hk
        have HF : Hid (BoxF w5 S [.int .u64 (withN 0 (crashL (xs.take (j + 1))) : Int)] ∧ Below w0.heap.size w0 w5) := by
          rw [crashL_snoc HX.out.1, if_neg (fun h => hk h.1), List.append_nil]
          exact ⟨HK.out.2.1, HK.out.1⟩
        clear hk
        go_wp2
        go_roundw
        case rel => exact ⟨j + 1, by omega, by go_num, HF.out.1, HF.out.2⟩
        case measure => simp [intOf]; omega
    · obtain rfl : j = n := by omega
      have HF : Hid (EachPost S xs w0 (.returned (.tuple #[])) wr) := by
        refine ⟨rfl, ?_, hB⟩
        rw [← H.out.2.2.1, List.take_length] at hBx
        exact hBx
      clear hBx hB
      go_wp2
      go_end0
      exact HF.out
end Go.Proofs.YtbgbehlmpheaeaaGreatDoor

namespace Go.Proofs.YtbgbehlmpheaeaaGreatDoor
open Go.RowKit Law
set_option linter.unusedVariables false
set_option linter.unusedSimpArgs false
set_option maxRecDepth 100000

def CrPost (xs : List Aw) (w : World) (e : Ending) (w' : World) : Prop := e = .returned (.int .u64 (withN 0 (crashL xs) : Int)) ∧ Below w.heap.size w w'
theorem scriptCrashes {w : World} {A : Option Addr} {xs : List Aw} {n cp : Nat} (hA : ActsAt w A xs) (hok : ∀ x ∈ xs, x.a.b.length = x.n) (hn : xs.length = n) (hm : n ≤ 1000000) :
    Calls Tryz.prog 16 #[.slice A n cp] w (CrPost xs w) := by
  have b1 := (Below.refl w.heap.size w).alloc (Nat.le_refl _) (.cells #[.int .u64 0] 43)
  have k1 := boxF_made w [.int .u64 0] 43
  obtain ⟨w1, hw1⟩ : ∃ w1, w.alloc (.cells #[.int .u64 0] 43) = w1 := ⟨_, rfl⟩
  rw [hw1] at b1
  replace k1 : BoxF w1 w.heap.size [.int .u64 0] := hw1 ▸ k1
  have C := Lib.hid (scriptEach (cp := cp) hA hok hn hm b1 k1 (Nat.le_refl _))
  clear hA hok hn hm b1 k1
  go_enter Tryz.func16, Tryz.ntmps16
  go_wp2_with fail
  refine C.out.mono ?_
  rintro e w2 ⟨rfl, hbx, hb⟩
  have c0 := hbx.1 0 _ rfl
  have HF : Hid (CrPost xs w (.returned (.int .u64 (withN 0 (crashL xs) : Int))) w2) := ⟨rfl, hb⟩
  clear hbx hb hw1
  go_wp2
  go_ret
  exact HF.out
set_option maxHeartbeats 3200000 in
theorem stat1 (x : Aw) {w : World} {B : Nat} {n : Int} (cB : w.cell? ⟨B, 0, none⟩ = some (.int .i64 n)) (hU : U8At w x.A x.a.b) (hl : x.a.b.length = x.n) :
    Calls Tryz.prog 8 #[.agg x.cells.toArray, .pointer (some ⟨B, 0, none⟩)] w fun e w' => e = .returned (.bool (badB n x.a)) ∧ Below w.heap.size w w' := by
  have hBl : B < w.heap.size := World.block_lt_of_cell? _ _ cB
  obtain ⟨⟨k, node, m, ⟨fk, fd, fa, fp, fb⟩, bb⟩, A2, n2, c2⟩ := x
  have b1 := (Below.refl w.heap.size w).alloc (Nat.le_refl _) (.cells #[.int .i64 k, .int .i64 node, .int .i64 m, .int .i64 fk, .int .i64 fd, .int .i64 fa, .int .u32 (fp : Int), .int .u32 (fb : Int), .slice A2 n2 c2] 35)
  have k1 := boxF_made w [.int .i64 k, .int .i64 node, .int .i64 m, .int .i64 fk, .int .i64 fd, .int .i64 fa, .int .u32 (fp : Int), .int .u32 (fb : Int), .slice A2 n2 c2] 35
  obtain ⟨w1, hw1⟩ : ∃ w1, w.alloc (.cells #[.int .i64 k, .int .i64 node, .int .i64 m, .int .i64 fk, .int .i64 fd, .int .i64 fa, .int .u32 (fp : Int), .int .u32 (fb : Int), .slice A2 n2 c2] 35) = w1 := ⟨_, rfl⟩
  rw [hw1] at b1
  replace k1 : BoxF w1 w.heap.size [.int .i64 k, .int .i64 node, .int .i64 m, .int .i64 fk, .int .i64 fd, .int .i64 fa, .int .u32 (fp : Int), .int .u32 (fb : Int), .slice A2 n2 c2] := hw1 ▸ k1
  have y0 := k1.1 0 _ rfl
  have y1 := k1.1 1 _ rfl
  have y2 := k1.1 2 _ rfl
  have y3 := k1.1 3 _ rfl
  have y4 := k1.1 4 _ rfl
  have y5 := k1.1 5 _ rfl
  have y6 := k1.1 6 _ rfl
  have y7 := k1.1 7 _ rfl
  have y8 := k1.1 8 _ rfl
  have hU1 := hU.keep b1
  have cB1 : w1.cell? ⟨B, 0, none⟩ = some (.int .i64 n) := (b1.cell (p := ⟨B, 0, none⟩) hBl).trans cB
  have HB := Lib.hid b1
  have HK := Lib.hid k1
  have HC := Lib.hid cB1
  show Calls Tryz.prog 8 #[.agg #[.int .i64 k, .int .i64 node, .int .i64 m, .int .i64 fk, .int .i64 fd, .int .i64 fa, .int .u32 (fp : Int), .int .u32 (fb : Int), .slice A2 n2 c2], .pointer (some ⟨B, 0, none⟩)] w fun e w' => e = .returned (.bool (badB n ⟨k, node, m, ⟨fk, fd, fa, fp, fb⟩, bb⟩)) ∧ Below w.heap.size w w'
  cases hg : goodA ⟨k, node, m, ⟨fk, fd, fa, fp, fb⟩, bb⟩ with
  | false =>
    have E : Hid (badB n ⟨k, node, m, ⟨fk, fd, fa, fp, fb⟩, bb⟩ = true) := by unfold Hid badB; rw [hg]; rfl
    have CG := Lib.hid (scriptGoodV ⟨k, node, m, ⟨fk, fd, fa, fp, fb⟩, bb⟩ A2 n2 c2 false hg w1 hU1 hl)
    clear b1 k1 hg hU hU1 hl cB cB1
    go_enter Tryz.func8, Tryz.ntmps8
    go_wp2_with fail
    refine CG.out.mono ?_
    rintro e w2 ⟨rfl, hb2⟩
    have HF : Hid (Below w.heap.size w w2) := HB.out.trans (hb2.mono HB.out.size)
    clear hb2 hw1 y0 y1 y2 y3 y4 y5 y6 y7 y8
    go_wp2
    go_ret
    exact ⟨ret_bool (by rw [E.out]), HF.out⟩
  | true =>
    have CG := Lib.hid (scriptGoodV ⟨k, node, m, ⟨fk, fd, fa, fp, fb⟩, bb⟩ A2 n2 c2 true hg w1 hU1 hl)
    have CA := Lib.hid (fun W => admAbout ⟨⟨k, node, m, ⟨fk, fd, fa, fp, fb⟩, bb⟩, A2, n2, c2⟩ W)
    have HG := Lib.hid hg
    clear b1 k1 hg hU hU1 hl cB cB1
    cases hab : aboutB ⟨k, node, m, ⟨fk, fd, fa, fp, fb⟩, bb⟩ with
    | false =>
      have E : Hid (badB n ⟨k, node, m, ⟨fk, fd, fa, fp, fb⟩, bb⟩ = false) := by unfold Hid badB; rw [HG.out, hab]; rfl
      simp only [hab, Aw.cells, Ac.cells] at CA
      clear hab
      go_enter Tryz.func8, Tryz.ntmps8
      go_wp2_with fail
      refine CG.out.mono ?_
      rintro e w2 ⟨rfl, hb2⟩
      have H2 := Lib.hid (And.intro (HB.out.trans (hb2.mono HB.out.size)) (HK.out.keep hb2))
      have k2 := H2.out.2
      have x0 := k2.1 0 _ rfl
      have x1 := k2.1 1 _ rfl
      have x2 := k2.1 2 _ rfl
      have x3 := k2.1 3 _ rfl
      have x4 := k2.1 4 _ rfl
      have x5 := k2.1 5 _ rfl
      have x6 := k2.1 6 _ rfl
      have x7 := k2.1 7 _ rfl
      have x8 := k2.1 8 _ rfl
      clear hb2 k2 hw1 y0 y1 y2 y3 y4 y5 y6 y7 y8
      go_wp2_with fail
      refine (CA.out _).mono ?_
      rintro e w3 ⟨rfl, hb3⟩
      have HF : Hid (Below w.heap.size w w3) := H2.out.1.trans (hb3.mono H2.out.1.size)
      clear hb3 x0 x1 x2 x3 x4 x5 x6 x7 x8
      go_wp2
      go_ret
      exact ⟨ret_bool (by rw [E.out]), HF.out⟩
    | true =>
      have E : Hid (badB n ⟨k, node, m, ⟨fk, fd, fa, fp, fb⟩, bb⟩ = decide (n ≤ node)) := by unfold Hid badB; rw [HG.out, hab]; rfl
      simp only [hab, Aw.cells, Ac.cells] at CA
      clear hab
      go_enter Tryz.func8, Tryz.ntmps8
      go_wp2_with fail
      refine CG.out.mono ?_
      rintro e w2 ⟨rfl, hb2⟩
      have H2 := Lib.hid (And.intro (HB.out.trans (hb2.mono HB.out.size)) (And.intro (HK.out.keep hb2) ((hb2.cell (p := ⟨B, 0, none⟩) (World.block_lt_of_cell? _ _ HC.out)).trans HC.out)))
      have k2 := H2.out.2.1
      have x0 := k2.1 0 _ rfl
      have x1 := k2.1 1 _ rfl
      have x2 := k2.1 2 _ rfl
      have x3 := k2.1 3 _ rfl
      have x4 := k2.1 4 _ rfl
      have x5 := k2.1 5 _ rfl
      have x6 := k2.1 6 _ rfl
      have x7 := k2.1 7 _ rfl
      have x8 := k2.1 8 _ rfl
      clear hb2 k2 hw1 y0 y1 y2 y3 y4 y5 y6 y7 y8
      go_wp2_with fail
      refine (CA.out _).mono ?_
      rintro e w3 ⟨rfl, hb3⟩
      have HF : Hid (Below w.heap.size w w3) := H2.out.1.trans (hb3.mono H2.out.1.size)
      have k3 := H2.out.2.1.keep hb3
      have v1 := k3.1 1 _ rfl
      have vB : w3.cell? ⟨B, 0, none⟩ = some (.int .i64 n) := (hb3.cell (p := ⟨B, 0, none⟩) (World.block_lt_of_cell? _ _ H2.out.2.2)).trans H2.out.2.2
      clear hb3 k3 x0 x1 x2 x3 x4 x5 x6 x7 x8
      go_wp2
      go_ret
      exact ⟨ret_bool (by rw [E.out]), HF.out⟩
set_option maxHeartbeats 3200000 in
theorem stat2 (x : Aw) {w : World} {B : Nat} {rho : Int} (h1 : -9223372036854775808 ≤ rho) (h2 : rho ≤ 9223372036854775807) (cB : w.cell? ⟨B, 5, none⟩ = some (.int .i64 rho)) :
    Calls Tryz.prog 11 #[.agg x.cells.toArray, .pointer (some ⟨B, 0, none⟩)] w fun e w' => e = .returned (.bool (wildB rho x.a)) ∧ Below w.heap.size w w' := by
  have hBl : B < w.heap.size := World.block_lt_of_cell? _ _ cB
  obtain ⟨⟨k, node, m, ⟨fk, fd, fa, fp, fb⟩, bb⟩, A2, n2, c2⟩ := x
  have b1 := (Below.refl w.heap.size w).alloc (Nat.le_refl _) (.cells #[.int .i64 k, .int .i64 node, .int .i64 m, .int .i64 fk, .int .i64 fd, .int .i64 fa, .int .u32 (fp : Int), .int .u32 (fb : Int), .slice A2 n2 c2] 35)
  have k1 := boxF_made w [.int .i64 k, .int .i64 node, .int .i64 m, .int .i64 fk, .int .i64 fd, .int .i64 fa, .int .u32 (fp : Int), .int .u32 (fb : Int), .slice A2 n2 c2] 35
  obtain ⟨w1, hw1⟩ : ∃ w1, w.alloc (.cells #[.int .i64 k, .int .i64 node, .int .i64 m, .int .i64 fk, .int .i64 fd, .int .i64 fa, .int .u32 (fp : Int), .int .u32 (fb : Int), .slice A2 n2 c2] 35) = w1 := ⟨_, rfl⟩
  rw [hw1] at b1
  replace k1 : BoxF w1 w.heap.size [.int .i64 k, .int .i64 node, .int .i64 m, .int .i64 fk, .int .i64 fd, .int .i64 fa, .int .u32 (fp : Int), .int .u32 (fb : Int), .slice A2 n2 c2] := hw1 ▸ k1
  have y0 := k1.1 0 _ rfl
  have y1 := k1.1 1 _ rfl
  have y2 := k1.1 2 _ rfl
  have y3 := k1.1 3 _ rfl
  have y4 := k1.1 4 _ rfl
  have y5 := k1.1 5 _ rfl
  have y6 := k1.1 6 _ rfl
  have y7 := k1.1 7 _ rfl
  have y8 := k1.1 8 _ rfl
  have cB1 : w1.cell? ⟨B, 5, none⟩ = some (.int .i64 rho) := (b1.cell (p := ⟨B, 5, none⟩) hBl).trans cB
  have HB := Lib.hid b1
  show Calls Tryz.prog 11 #[.agg #[.int .i64 k, .int .i64 node, .int .i64 m, .int .i64 fk, .int .i64 fd, .int .i64 fa, .int .u32 (fp : Int), .int .u32 (fb : Int), .slice A2 n2 c2], .pointer (some ⟨B, 0, none⟩)] w fun e w' => e = .returned (.bool (wildB rho ⟨k, node, m, ⟨fk, fd, fa, fp, fb⟩, bb⟩)) ∧ Below w.heap.size w w'
  have CF := Lib.hid (fun W => rateFair m rho h1 h2 W)
  clear b1 k1 cB h1 h2 hBl
  by_cases hk : k = 2
  · subst hk
    have E : Hid (wildB rho ⟨2, node, m, ⟨fk, fd, fa, fp, fb⟩, bb⟩ = !fairB m rho) := rfl
    go_enter Tryz.func11, Tryz.ntmps11
    go_wp2_with fail
    refine (CF.out _).mono ?_
    rintro e w2 ⟨rfl, rfl⟩
    generalize fairB m rho = fb0 at *
    go_wp2
    go_ret
    exact ⟨ret_bool (by rw [E.out]), HB.out⟩
  · have hk2 : (k == 2) = false := beq_eq_false_iff_ne.2 hk
    have E : Hid (wildB rho ⟨k, node, m, ⟨fk, fd, fa, fp, fb⟩, bb⟩ = false) := by unfold Hid wildB; simp [hk]
    clear hk
    go_enter Tryz.func11, Tryz.ntmps11
    go_wp2
    go_ret
    exact ⟨ret_bool (by rw [E.out]), HB.out⟩
/-- What is wrong with a script. -/
def statN (c : Cn) (L : List Pr) (xs : List Aw) : Nat :=
  if faultN c L ≠ 0 then 1 else if (xs.any fun x => badB c.n x.a) = true then 2 else if (xs.any fun x => wildB c.rho x.a) = true then 3 else if c.f < ((els (withN 0 (crashL xs))).length : Int) then 4 else 0
def StatPost (c : Cn) (L : List Pr) (xs : List Aw) (w : World) (e : Ending) (w' : World) : Prop := e = .returned (.int .i64 (statN c L xs : Int)) ∧ Below w.heap.size w w'
set_option maxHeartbeats 6400000 in
theorem admStatic (c : Cn) (A1 : Option Addr) (l k : Nat) (L : List Pr) (hl : L.length = l) (hfit : ∀ x ∈ L, PrF x) (hm : l ≤ 9223372036854775807) (h9 : gErr c.n L = 0 → c.n < 9) (hr1 : -9223372036854775808 ≤ c.rho) (hr2 : c.rho ≤ 9223372036854775807) {A : Option Addr} {xs : List Aw} {n cp : Nat} (hok : ∀ x ∈ xs, x.a.b.length = x.n) (hn : xs.length = n) (hm2 : n ≤ 1000000) (w : World) (hL : LinksAt w A1 L) (hA : ActsAt w A xs) (hT : T64 w) :
    Calls Tryz.prog 5 #[.agg (c.cells A1 l k).toArray, .slice A n cp] w (StatPost c L xs w) := by
  have HCC := Lib.hid (fun (W : World) (hA : LinksAt W A1 L) (hT : T64 W) => cCheck c A1 l k L hl hfit hm h9 W hA hT)
  have HP : Hid (∀ v w', v = (statN c L xs : Int) → Below w.heap.size w w' → StatPost c L xs w (.returned (.int .i64 v)) w') := fun v w' h1 h2 => ⟨by rw [h1], h2⟩
  obtain ⟨FN, hFN⟩ : ∃ FN, faultN c L = FN := ⟨_, rfl⟩
  rw [hFN] at HCC
  have HFN := Lib.hid hFN
  have HR := Lib.hid (And.intro hok (And.intro hn (And.intro hm2 (And.intro hr1 hr2))))
  obtain ⟨n0, f, dmin, dmax, rho, slew, round, window, attend, seen, hist, fly, quota, body⟩ := c
  simp only [Cn.cells] at HCC ⊢
  have k1 := boxF_made w [.int .i64 n0, .slice A1 l k, .int .i64 f, .int .i64 dmin, .int .i64 dmax, .int .i64 rho, .int .i64 slew, .int .i64 round, .int .i64 window, .int .i64 attend, .int .i64 seen, .int .i64 hist, .int .i64 fly, .int .i64 quota, .int .i64 body] 24
  have b1 := (Below.refl w.heap.size w).alloc (Nat.le_refl _) (.cells #[.int .i64 n0, .slice A1 l k, .int .i64 f, .int .i64 dmin, .int .i64 dmax, .int .i64 rho, .int .i64 slew, .int .i64 round, .int .i64 window, .int .i64 attend, .int .i64 seen, .int .i64 hist, .int .i64 fly, .int .i64 quota, .int .i64 body] 24)
  obtain ⟨w1, hw1⟩ : ∃ w1, w.alloc (.cells #[.int .i64 n0, .slice A1 l k, .int .i64 f, .int .i64 dmin, .int .i64 dmax, .int .i64 rho, .int .i64 slew, .int .i64 round, .int .i64 window, .int .i64 attend, .int .i64 seen, .int .i64 hist, .int .i64 fly, .int .i64 quota, .int .i64 body] 24) = w1 := ⟨_, rfl⟩
  rw [hw1] at b1
  replace k1 : BoxF w1 w.heap.size [.int .i64 n0, .slice A1 l k, .int .i64 f, .int .i64 dmin, .int .i64 dmax, .int .i64 rho, .int .i64 slew, .int .i64 round, .int .i64 window, .int .i64 attend, .int .i64 seen, .int .i64 hist, .int .i64 fly, .int .i64 quota, .int .i64 body] := hw1 ▸ k1
  have d0_ := k1.1 0 _ rfl
  have d1_ := k1.1 1 _ rfl
  have d2_ := k1.1 2 _ rfl
  have d3_ := k1.1 3 _ rfl
  have d4_ := k1.1 4 _ rfl
  have d5_ := k1.1 5 _ rfl
  have d6_ := k1.1 6 _ rfl
  have d7_ := k1.1 7 _ rfl
  have d8_ := k1.1 8 _ rfl
  have d9_ := k1.1 9 _ rfl
  have d10_ := k1.1 10 _ rfl
  have d11_ := k1.1 11 _ rfl
  have d12_ := k1.1 12 _ rfl
  have d13_ := k1.1 13 _ rfl
  have d14_ := k1.1 14 _ rfl
  have H1 := Lib.hid (And.intro k1 (And.intro b1 (And.intro (hL.below b1) (And.intro (hA.keep b1) (hT.below b1)))))
  clear k1 b1 hL hA hT hok hn hm2 hr1 hr2 hl hfit hm h9 hFN
  go_enter Tryz.func5, Tryz.ntmps5
  go_wp2_with fail
  clear hw1 d0_ d1_ d2_ d3_ d4_ d5_ d6_ d7_ d8_ d9_ d10_ d11_ d12_ d13_ d14_
  refine (HCC.out w1 H1.out.2.2.1 H1.out.2.2.2.2).mono ?_
  rintro e w2 ⟨rfl, hb2⟩
  have H2 := Lib.hid (And.intro (H1.out.1.keep hb2) (And.intro (H1.out.2.1.trans (hb2.mono H1.out.2.1.size)) (H1.out.2.2.2.1.keep hb2)))
  clear hb2
  by_cases h0 : FN = 0
  · subst h0
    rw [if_pos rfl]
    have C1 := containsF1 (cp := cp) H2.out.2.2 HR.out.2.1 HR.out.2.2.1 w.heap.size (badB n0) (fun x hx W hW => by
      obtain ⟨q, hq, rfl⟩ := List.getElem_of_mem hx
      obtain ⟨_, _, _, _, hU⟩ := (H2.out.2.2.keep hW) q _ (List.getElem?_eq_getElem hq)
      exact stat1 _ ((H2.out.1.keep hW).1 0 _ rfl) hU (HR.out.1 _ hx))
    cases hbad : xs.any fun x => badB n0 x.a with
    | true =>
      rw [hbad] at C1
      have C1 := Lib.hid C1
      have HB := Lib.hid hbad
      clear hbad
      go_wp2_with fail
      refine C1.out.mono ?_
      rintro e w3 ⟨rfl, hb3⟩
      have HF := Lib.hid (HP.out 2 w3 (by unfold statN; rw [HFN.out, if_neg (by simp), if_pos HB.out]; rfl) (H2.out.2.1.trans (hb3.mono H2.out.2.1.size)))
      clear hb3
      go_wp2
      go_ret
      exact HF.out
    | false =>
      rw [hbad] at C1
      have C1 := Lib.hid C1
      have HB := Lib.hid hbad
      clear hbad
      go_wp2_with fail
      refine C1.out.mono ?_
      rintro e w3 ⟨rfl, hb3⟩
      have H3 := Lib.hid (And.intro (H2.out.1.keep hb3) (And.intro (H2.out.2.1.trans (hb3.mono H2.out.2.1.size)) (H2.out.2.2.keep hb3)))
      clear hb3
      have C2 := containsF2 (cp := cp) H3.out.2.2 HR.out.2.1 HR.out.2.2.1 w.heap.size (wildB rho) (fun x hx W hW => stat2 x HR.out.2.2.2.1 HR.out.2.2.2.2 ((H3.out.1.keep hW).1 5 _ rfl))
      cases hwild : xs.any fun x => wildB rho x.a with
      | true =>
        rw [hwild] at C2
        have C2 := Lib.hid C2
        have HW := Lib.hid hwild
        clear hwild
        go_wp2_with fail
        refine C2.out.mono ?_
        rintro e w4 ⟨rfl, hb4⟩
        have HF := Lib.hid (HP.out 3 w4 (by unfold statN; rw [HFN.out, if_neg (by simp), if_neg (by rw [HB.out]; simp), if_pos HW.out]; rfl) (H3.out.2.1.trans (hb4.mono H3.out.2.1.size)))
        clear hb4
        go_wp2
        go_ret
        exact HF.out
      | false =>
        rw [hwild] at C2
        have C2 := Lib.hid C2
        have HW := Lib.hid hwild
        clear hwild
        go_wp2_with fail
        refine C2.out.mono ?_
        rintro e w5 ⟨rfl, hb5⟩
        have H5 := Lib.hid (And.intro (H3.out.1.keep hb5) (And.intro (H3.out.2.1.trans (hb5.mono H3.out.2.1.size)) (H3.out.2.2.keep hb5)))
        clear hb5
        have HD : Hid (Below w5.heap.size w5 w5.drew) := (Below.refl _ _).drew
        have HBD := HD
        have HKB : Hid (∀ X, Below w5.heap.size w5 X → BoxAt X w.heap.size [.int .i64 n0, .slice A1 l k, .int .i64 f, .int .i64 dmin, .int .i64 dmax, .int .i64 rho, .int .i64 slew, .int .i64 round, .int .i64 window, .int .i64 attend, .int .i64 seen, .int .i64 hist, .int .i64 fly, .int .i64 quota, .int .i64 body] ∧ True) := fun X hX => ⟨(H5.out.1.keep hX).1, trivial⟩
        have CCR : Hid (∀ X, Below w5.heap.size w5 X → Calls Tryz.prog 16 #[.slice A n cp] X (CrPost xs X)) := fun X hX => scriptCrashes (H5.out.2.2.keep hX) HR.out.1 HR.out.2.1 HR.out.2.2.1
        have hlt := withN_lt (crashL xs) 0 (by decide)
        obtain ⟨cs, hcs⟩ : ∃ cs, withN 0 (crashL xs) = cs := ⟨_, rfl⟩
        rw [hcs] at hlt
        have CNT := Lib.hid (fun W => nodesCount cs hlt W)
        have HEN : Hid (statN ⟨n0, f, dmin, dmax, rho, slew, round, window, attend, seen, hist, fly, quota, body⟩ L xs = if f < ((els cs).length : Int) then 4 else 0) := by
          unfold Hid statN
          rw [HFN.out, if_neg (by simp), if_neg (by rw [HB.out]; simp), if_neg (by rw [HW.out]; simp), hcs]
        have HCS := Lib.hid hcs
        obtain ⟨q, hq⟩ : ∃ q, (els cs).length = q := ⟨_, rfl⟩
        rw [hq] at HEN CNT
        clear hlt hcs hq
        go_wp2_with fail
        refine wp_region_plan [] [(true, 0), (true, 3), (true, 4), (false, 1), (false, 2), (true, 5), (true, 6)] 7 12 (fun X => Below w5.heap.size w5 X) (by kernel_rfl) (by kernel_rfl) (by intro c a t v w h; exact h) HD.out ?_
        simp only [pickB, pickL, List.drop_succ_cons, List.drop_zero, List.head?_cons, Option.toList_some, List.map_cons, List.map_nil, List.cons_append, List.nil_append]
        refine wpHead_nil ?_
        iterate 3 (refine wpPlan_rd _ (by rfl) (by intro W hW; have hk := HKB.out W hW; have z2 := hk.1 2 _ rfl; clear hk hW; go_simp; with_reducible rfl) ?_; simp only [Act.put, List.setIfInBounds_toArray, List.set_cons_zero, List.set_cons_succ])
        refine wpPlan_do (by rfl) ?_
        go_simp
        go_at_call 16
        refine (CCR.out _ HBD.out).mono ?_
        rintro e w6 ⟨rfl, hb6⟩
        rw [HCS.out]
        have H6 : Hid (Below w5.heap.size w5 w6) := HD.out.trans (hb6.mono HD.out.size)
        clear hb6
        refine ⟨H6.out, ?_⟩
        refine wpPlan_do (by rfl) ?_
        go_simp
        go_at_call 15
        refine (CNT.out _).mono ?_
        rintro e w6 ⟨rfl, rfl⟩
        refine ⟨H6.out, ?_⟩
        iterate 2 (refine wpPlan_rd _ (by rfl) (by intro W hW; have hk := HKB.out W hW; have z2 := hk.1 2 _ rfl; clear hk hW; go_simp; with_reducible rfl) ?_; simp only [Act.put, List.setIfInBounds_toArray, List.set_cons_zero, List.set_cons_succ])
        refine wpPlan_nil ?_
        by_cases hf : f < (q : Int)
        · have HF := Lib.hid (HP.out 4 w6 (by rw [HEN.out, if_pos hf]; rfl) (H5.out.2.1.trans (H6.out.mono H5.out.2.1.size)))
          go_wp2
          go_ret
          exact HF.out
        · have HF := Lib.hid (HP.out 0 w6 (by rw [HEN.out, if_neg hf]; rfl) (H5.out.2.1.trans (H6.out.mono H5.out.2.1.size)))
          go_wp2
          go_ret
          exact HF.out
  · rw [if_neg h0]
    have HF := Lib.hid (HP.out 1 w2 (by unfold statN; rw [HFN.out, if_pos h0]; rfl) H2.out.2.1)
    go_wp2
    go_ret
    exact HF.out
end Go.Proofs.YtbgbehlmpheaeaaGreatDoor
