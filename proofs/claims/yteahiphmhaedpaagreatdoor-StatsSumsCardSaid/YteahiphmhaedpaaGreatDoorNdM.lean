/- What several texts of this seat lean on, joined: NdA NdB NdC NdD NdF NdG. -/
import Derived.Test.YteahiphmhaedpaaGreatDoorCfB
import Derived.Test.YteahiphmhaedpaaGreatDoorBase
import Derived.Lib.MinMax
namespace Go.Proofs.YteahiphmhaedpaaGreatDoor
open Go.RowKit Law
set_option linter.unusedVariables false
set_option linter.unusedSimpArgs false
set_option maxRecDepth 100000

/-- A new object, in a block of its own. -/
def MadeAt (w : World) (cs : List Value) (e : Ending) (w' : World) : Prop := ∃ b, e = .returned (.pointer (some ⟨b, 0, none⟩)) ∧ BoxF w' b cs ∧ w.heap.size ≤ b ∧ Below w.heap.size w w'
theorem made_here (w : World) (cs : List Value) (t : TypeId) : MadeAt w cs (.returned (.pointer (some ⟨w.heap.size, 0, none⟩))) (w.alloc (.cells cs.toArray t)) := ⟨_, rfl, boxF_made w cs t, Nat.le_refl _, (Below.refl _ _).alloc (Nat.le_refl _) _⟩
def clampI (x lo hi : Int) : Int := if x < lo then lo else if hi < x then hi else x
theorem spanClamp (x lo hi : Int) (w : World) : Calls Tryz.prog 62 #[.int .i64 x, .int .i64 lo, .int .i64 hi] w fun e w' => e = .returned (.int .i64 (clampI x lo hi)) ∧ w = w' := by
  by_cases h1 : x < lo
  · have H : Hid (clampI x lo hi = lo) := by unfold Hid clampI; rw [if_pos h1]
    go_enter Tryz.func62, Tryz.ntmps62
    go_wp2
    go_ret
    exact ⟨ret_int H.out.symm, rfl⟩
  · by_cases h2 : hi < x
    · have H : Hid (clampI x lo hi = hi) := by unfold Hid clampI; rw [if_neg h1, if_pos h2]
      go_enter Tryz.func62, Tryz.ntmps62
      go_wp2
      go_ret
      exact ⟨ret_int H.out.symm, rfl⟩
    · have H : Hid (clampI x lo hi = x) := by unfold Hid clampI; rw [if_neg h1, if_neg h2]
      go_enter Tryz.func62, Tryz.ntmps62
      go_wp2
      go_ret
      exact ⟨ret_int H.out.symm, rfl⟩
theorem slewNew (most : Int) (w : World) : Calls Tryz.prog 132 #[.int .i64 most] w (MadeAt w [.int .i64 0, .int .i64 (clampI most 1 256)]) := by
  have C := Lib.hid (fun W => spanClamp most 1 256 W)
  go_enter Tryz.func132, Tryz.ntmps132
  go_wp2_with fail
  refine (C.out _).mono ?_
  rintro e w' ⟨rfl, rfl⟩
  go_wp2
  go_ret
  exact made_here _ _ _
theorem joinNew (w : World) : Calls Tryz.prog 68 #[] w (MadeAt w [.int .i64 0, .int .i64 (-1), .int .i64 0]) := by
  go_enter Tryz.func68, Tryz.ntmps68
  go_wp2
  go_ret
  exact made_here _ _ _
theorem quotaNew (most body : Int) (w : World) : Calls Tryz.prog 66 #[.int .i64 most, .int .i64 body] w (MadeAt w [.int .i64 (min (max most 0) 65536), .int .i64 (min (max body 0) 1024), .int .i64 0]) := by
  go_enter Tryz.func66, Tryz.ntmps66
  go_wp2
  go_ret
  exact made_here _ _ _
theorem serialNew (w : World) : Calls Tryz.prog 61 #[.int .u32 0] w (MadeAt w [.int .u64 0]) := by
  go_enter Tryz.func61, Tryz.ntmps61
  go_wp2
  go_ret
  exact made_here _ _ _
theorem viewNew (w : World) : Calls Tryz.prog 69 #[] w (MadeAt w [.slice none 0 0]) := by
  go_enter Tryz.func69, Tryz.ntmps69
  go_wp2
  go_ret
  exact made_here _ _ _
theorem logNew (w : World) : Calls Tryz.prog 70 #[] w (MadeAt w [.slice none 0 0]) := by
  go_enter Tryz.func70, Tryz.ntmps70
  go_wp2
  go_ret
  exact made_here _ _ _
theorem joinState {s : Int} {x y : Value} {w : World} {b : Nat} (h : BoxF w b [.int .i64 s, x, y]) : Calls Tryz.prog 73 #[.pointer (some ⟨b, 0, none⟩)] w fun e w' => e = .returned (.int .i64 s) ∧ w = w' := by
  have c0 := h.1 0 _ rfl
  go_enter Tryz.func73, Tryz.ntmps73
  go_wp2
  go_ret
  exact ⟨rfl, rfl⟩
theorem clockPhase {s : Int} {x y z : Value} {w : World} {b : Nat} (h : BoxF w b [x, .int .i64 s, y, z]) : Calls Tryz.prog 72 #[.pointer (some ⟨b, 0, none⟩)] w fun e w' => e = .returned (.int .i64 s) ∧ w = w' := by
  have c1 := h.1 1 _ rfl
  go_enter Tryz.func72, Tryz.ntmps72
  go_wp2
  go_ret
  exact ⟨rfl, rfl⟩
theorem logLen0 {A : Option Addr} {l k : Nat} {w : World} {b : Nat} (h : BoxF w b [.slice A l k]) : Calls Tryz.prog 255 #[.pointer (some ⟨b, 0, none⟩)] w fun e w' => e = .returned (.int .i64 (l : Int)) ∧ w = w' := by
  have c0 := h.1 0 _ rfl
  go_enter Tryz.func255, Tryz.ntmps255
  go_wp2
  go_ret
  exact ⟨rfl, rfl⟩
end Go.Proofs.YteahiphmhaedpaaGreatDoor

namespace Go.Proofs.YteahiphmhaedpaaGreatDoor
open Go.RowKit Law
set_option linter.unusedVariables false
set_option linter.unusedSimpArgs false
set_option maxRecDepth 100000

/-- A map that holds nothing. -/
def NoMap (w : World) (m : Nat) : Prop := w.heap[m]? = some (.map #[] 0)
theorem NoMap.keep {w w' : World} {m : Nat} (h : NoMap w m) (hb : Below w.heap.size w w') : NoMap w' m := by
  have hlt : m < w.heap.size := (Array.getElem?_eq_some_iff.1 h).1
  unfold NoMap
  rw [hb.block m hlt]
  exact h
theorem noMap_made (w : World) : NoMap (w.alloc (.map #[] 0)) w.heap.size := by
  show (w.heap.push _)[w.heap.size]? = _
  simp
/-- A new object that holds a new map. -/
def MadeM (w : World) (cs : Nat → List Value) (e : Ending) (w' : World) : Prop := ∃ b m, e = .returned (.pointer (some ⟨b, 0, none⟩)) ∧ BoxF w' b (cs m) ∧ NoMap w' m ∧ w.heap.size ≤ m ∧ m < b ∧ Below w.heap.size w w'
theorem madeM_here (w : World) (cs : Nat → List Value) (t : TypeId) : MadeM w cs (.returned (.pointer (some ⟨w.heap.size + 1, 0, none⟩))) ((w.alloc (.map #[] 0)).alloc (.cells (cs w.heap.size).toArray t)) := by
  have h1 : Below w.heap.size w (w.alloc (.map #[] 0)) := (Below.refl _ _).alloc (Nat.le_refl _) _
  have h2 : Below (w.alloc (.map #[] 0)).heap.size (w.alloc (.map #[] 0)) ((w.alloc (.map #[] 0)).alloc (.cells (cs w.heap.size).toArray t)) := (Below.refl _ _).alloc (Nat.le_refl _) _
  have hb := boxF_made (w.alloc (.map #[] 0)) (cs w.heap.size) t
  rw [show (w.alloc (.map #[] 0)).heap.size = w.heap.size + 1 by simp] at hb
  exact ⟨_, _, rfl, hb, (noMap_made w).keep h2, Nat.le_refl _, Nat.lt_succ_self _, h1.trans (h2.mono (by simp))⟩
theorem tabNewI (most : Int) (w : World) : Calls Tryz.prog 188 #[.int .i64 most] w (MadeM w fun m => [.slice none 0 0, .map (some m), .int .i64 (min (max most 0) 65536)]) := by
  have hmk : ∀ W : World, (Instr.makeMap 337 none).run Tryz.prog W = .ok (.map (some W.heap.size)) (W.alloc (.map #[] 0)) := fun W => by rfl
  go_enter Tryz.func188, Tryz.ntmps188
  go_wp2
  go_ret
  exact madeM_here w (fun m => [.slice none 0 0, .map (some m), .int .i64 (min (max most 0) 65536)]) _
theorem tabNewP (most : Int) (w : World) : Calls Tryz.prog 134 #[.int .i64 most] w (MadeM w fun m => [.slice none 0 0, .map (some m), .int .i64 (min (max most 0) 65536)]) := by
  have hmk : ∀ W : World, (Instr.makeMap 290 none).run Tryz.prog W = .ok (.map (some W.heap.size)) (W.alloc (.map #[] 0)) := fun W => by rfl
  go_enter Tryz.func134, Tryz.ntmps134
  go_wp2
  go_ret
  exact madeM_here w (fun m => [.slice none 0 0, .map (some m), .int .i64 (min (max most 0) 65536)]) _
theorem rollNew (most : Int) (w : World) : Calls Tryz.prog 67 #[.int .i64 most] w (MadeM w fun m => [.map (some m), .int .i64 (min (max most 0) 65536)]) := by
  have hmk : ∀ W : World, (Instr.makeMap 229 none).run Tryz.prog W = .ok (.map (some W.heap.size)) (W.alloc (.map #[] 0)) := fun W => by rfl
  go_enter Tryz.func67, Tryz.ntmps67
  go_wp2
  go_ret
  exact madeM_here w (fun m => [.map (some m), .int .i64 (min (max most 0) 65536)]) _
theorem pieceNew (self : Int) (w : World) : Calls Tryz.prog 71 #[.int .i64 self] w (MadeM w fun m => [.int .i64 self, .int .i64 0, .int .i64 0, .map (some m)]) := by
  have hmk : ∀ W : World, (Instr.makeMap 238 none).run Tryz.prog W = .ok (.map (some W.heap.size)) (W.alloc (.map #[] 0)) := fun W => by rfl
  go_enter Tryz.func71, Tryz.ntmps71
  go_wp2
  go_ret
  exact madeM_here w (fun m => [.int .i64 self, .int .i64 0, .int .i64 0, .map (some m)]) _
theorem roundNew (no : Int) (w : World) : Calls Tryz.prog 137 #[.int .i64 no] w (MadeM w fun m => [.int .i64 no, .map (some m)]) := by
  have hmk : ∀ W : World, (Instr.makeMap 294 none).run Tryz.prog W = .ok (.map (some W.heap.size)) (W.alloc (.map #[] 0)) := fun W => by rfl
  go_enter Tryz.func137, Tryz.ntmps137
  go_wp2
  go_ret
  exact madeM_here w (fun m => [.int .i64 no, .map (some m)]) _
end Go.Proofs.YteahiphmhaedpaaGreatDoor

namespace Go.Proofs.YteahiphmhaedpaaGreatDoor
open Go.RowKit Law
set_option linter.unusedVariables false
set_option linter.unusedSimpArgs false
set_option maxRecDepth 100000

def ClockPost (most : Int) (w : World) (e : Ending) (w' : World) : Prop := ∃ b s, e = .returned (.pointer (some ⟨b, 0, none⟩)) ∧ BoxF w' b [.pointer (some ⟨s, 0, none⟩), .int .i64 0, .int .i64 0, .int .i64 most] ∧ BoxF w' s [.int .i64 0, .int .i64 (clampI most 1 256)] ∧ w.heap.size ≤ s ∧ s < b ∧ Below w.heap.size w w'
theorem clockNew (most : Int) (w : World) : Calls Tryz.prog 63 #[.int .i64 most] w (ClockPost most w) := by
  have C := Lib.hid (slewNew most w)
  go_enter Tryz.func63, Tryz.ntmps63
  go_wp2_with fail
  refine C.out.mono ?_
  rintro e w1 ⟨s, rfl, hs, hsl, hb⟩
  have hb2 := (Below.refl w1.heap.size w1).alloc (Nat.le_refl _) (.cells #[.pointer (some ⟨s, 0, none⟩), .int .i64 0, .int .i64 0, .int .i64 most] 215)
  have HF : Hid (ClockPost most w (.returned (.pointer (some ⟨w1.heap.size, 0, none⟩))) (w1.alloc (.cells #[.pointer (some ⟨s, 0, none⟩), .int .i64 0, .int .i64 0, .int .i64 most] 215))) :=
    ⟨_, s, rfl, boxF_made w1 _ _, hs.keep hb2, hsl, hs.lt (by simp), hb.trans (hb2.mono hb.size)⟩
  clear hs hsl hb hb2
  go_wp2
  go_ret
  exact HF.out
def SeenPost (most : Int) (w : World) (e : Ending) (w' : World) : Prop := ∃ b t m, e = .returned (.pointer (some ⟨b, 0, none⟩)) ∧ BoxF w' b [.pointer (some ⟨t, 0, none⟩)] ∧ BoxF w' t [.slice none 0 0, .map (some m), .int .i64 (min (max most 0) 65536)] ∧ NoMap w' m ∧ w.heap.size ≤ m ∧ m < t ∧ t < b ∧ Below w.heap.size w w'
theorem seenNew (most : Int) (w : World) : Calls Tryz.prog 133 #[.int .i64 most] w (SeenPost most w) := by
  have C := Lib.hid (tabNewI most w)
  go_enter Tryz.func133, Tryz.ntmps133
  go_wp2_with fail
  refine C.out.mono ?_
  rintro e w1 ⟨t, m, rfl, ht, hm, hml, hmt, hb⟩
  have hb2 := (Below.refl w1.heap.size w1).alloc (Nat.le_refl _) (.cells #[.pointer (some ⟨t, 0, none⟩)] 289)
  have HF : Hid (SeenPost most w (.returned (.pointer (some ⟨w1.heap.size, 0, none⟩))) (w1.alloc (.cells #[.pointer (some ⟨t, 0, none⟩)] 289))) :=
    ⟨_, t, m, rfl, boxF_made w1 _ _, ht.keep hb2, hm.keep hb2, hml, hmt, ht.lt (by simp), hb.trans (hb2.mono hb.size)⟩
  clear ht hm hml hmt hb hb2
  go_wp2
  go_ret
  exact HF.out
def HistPost (most delta : Int) (w : World) (e : Ending) (w' : World) : Prop := ∃ b t m q, e = .returned (.pointer (some ⟨b, 0, none⟩)) ∧ BoxF w' b [.pointer (some ⟨t, 0, none⟩), .map (some q), .int .i64 (clampI delta 0 1152921504606846976), .int .i64 0, .int .i64 0, .int .u32 0, .bool false] ∧ BoxF w' t [.slice none 0 0, .map (some m), .int .i64 (min (max most 0) 65536)] ∧ NoMap w' m ∧ NoMap w' q ∧ w.heap.size ≤ m ∧ m < t ∧ t < q ∧ q < b ∧ Below w.heap.size w w'
theorem histNew (most delta : Int) (w : World) : Calls Tryz.prog 65 #[.int .i64 most, .int .i64 delta] w (HistPost most delta w) := by
  have C := Lib.hid (tabNewP most w)
  have D := Lib.hid (fun W => spanClamp delta 0 1152921504606846976 W)
  have hmk : ∀ W : World, (Instr.makeMap 224 none).run Tryz.prog W = .ok (.map (some W.heap.size)) (W.alloc (.map #[] 0)) := fun W => by rfl
  go_enter Tryz.func65, Tryz.ntmps65
  go_wp2_with fail
  refine C.out.mono ?_
  rintro e w1 ⟨t, m, rfl, ht, hm, hml, hmt, hb⟩
  obtain ⟨dl, hdl⟩ : ∃ d, clampI delta 0 1152921504606846976 = d := ⟨_, rfl⟩
  rw [hdl] at D
  have hb1 : Below w1.heap.size w1 (w1.alloc (.map #[] 0)) := (Below.refl _ _).alloc (Nat.le_refl _) _
  have hq := noMap_made w1
  obtain ⟨w2, hw2⟩ : ∃ w2, w1.alloc (.map #[] 0) = w2 := ⟨_, rfl⟩
  have hs2 : w2.heap.size = w1.heap.size + 1 := by rw [← hw2]; simp
  rw [hw2] at hb1 hq
  have hb2 := (Below.refl w2.heap.size w2).alloc (Nat.le_refl _) (.cells #[.pointer (some ⟨t, 0, none⟩), .map (some w1.heap.size), .int .i64 dl, .int .i64 0, .int .i64 0, .int .u32 0, .bool false] 226)
  have hb12 := hb.trans (hb1.mono hb.size)
  have HF : Hid (HistPost most delta w (.returned (.pointer (some ⟨w2.heap.size, 0, none⟩))) (w2.alloc (.cells #[.pointer (some ⟨t, 0, none⟩), .map (some w1.heap.size), .int .i64 dl, .int .i64 0, .int .i64 0, .int .u32 0, .bool false] 226))) :=
    ⟨_, t, m, w1.heap.size, rfl, by rw [hdl]; exact boxF_made w2 _ _, (ht.keep hb1).keep hb2, (hm.keep hb1).keep hb2, hq.keep hb2, hml, hmt, ht.lt (by simp), by omega, hb12.trans (hb2.mono hb12.size)⟩
  clear ht hm hml hmt hb hb1 hb2 hb12 hq hs2 hdl
  go_wp2_with fail
  refine (D.out _).mono ?_
  rintro e w3 ⟨rfl, rfl⟩
  go_wp2
  go_ret
  exact HF.out
end Go.Proofs.YteahiphmhaedpaaGreatDoor

namespace Go.Proofs.YteahiphmhaedpaaGreatDoor
open Go.RowKit Law
set_option linter.unusedVariables false
set_option linter.unusedSimpArgs false
set_option maxRecDepth 100000

theorem perWithin (x lo hi : Int) (w : World) : Calls Tryz.prog 131 #[.int .i64 x, .int .i64 lo, .int .i64 hi] w fun e w' => e = .returned (.int .i64 (min (max x lo) hi)) ∧ w = w' := by
  go_enter Tryz.func131, Tryz.ntmps131
  go_wp2
  all_goals
    go_ret
    exact ⟨ret_int (by omega), rfl⟩
def perEvery (x : Int) : Int := min (max x 1) 1099511627776
def perDelta (x : Int) : Int := min (max x 0) 1099511627776
theorem perNew (every delta : Int) (w : World) : Calls Tryz.prog 60 #[.int .i64 every, .int .i64 delta] w fun e w' => e = .returned (.agg #[.int .i64 (perEvery every), .int .i64 (perDelta delta)]) ∧ Below w.heap.size w w' := by
  have C1 := fun W => perWithin every 1 1099511627776 W
  have C2 := fun W => perWithin delta 0 1099511627776 W
  obtain ⟨a, ha⟩ : ∃ a, perEvery every = a := ⟨_, rfl⟩
  obtain ⟨b, hb⟩ : ∃ b, perDelta delta = b := ⟨_, rfl⟩
  rw [show min (max every 1) 1099511627776 = a from ha] at C1
  rw [show min (max delta 0) 1099511627776 = b from hb] at C2
  rw [ha, hb]
  have C1 := Lib.hid C1
  have C2 := Lib.hid C2
  clear ha hb
  go_enter Tryz.func60, Tryz.ntmps60
  go_wp2_with fail
  refine (C1.out _).mono ?_
  rintro e w1 ⟨rfl, rfl⟩
  go_wp2_with fail
  refine (C2.out _).mono ?_
  rintro e w1 ⟨rfl, rfl⟩
  go_wp2
  refine bodyPost_ret (v := .agg #[.int .i64 a, .int .i64 b]) (by simp [results, Tryz.results60, go_sem]) rfl ⟨rfl, ?_⟩
  repeat (first | exact Below.refl _ _ | (refine Below.setCell ?_ (by simp) _) | (refine Below.drew ?_) | (refine Below.alloc ?_ (by simp) _))
/-- Bounds, as numbers. -/
structure Bn where
  h : Int
  f : Int
  s : Int
  l : Int
  r : Int
  a : Int
  st : Int
  eps : Int
  m : Int
  c : Int
  rough : Int
  delta : Int
  d : Int
  j : Int
abbrev Bn.cells (b : Bn) : List Value := [.int .i64 b.h, .int .i64 b.f, .int .i64 b.s, .int .i64 b.l, .int .i64 b.r, .int .i64 b.a, .int .i64 b.st, .int .i64 b.eps, .int .i64 b.m, .int .i64 b.c, .int .i64 b.rough, .int .i64 b.delta, .int .i64 b.d, .int .i64 b.j]
def RelayPost (self n most : Int) (b : Bn) (w : World) (e : Ending) (w' : World) : Prop := ∃ q s t m, e = .returned (.pointer (some ⟨q, 0, none⟩)) ∧ BoxF w' q (.pointer (some ⟨s, 0, none⟩) :: .int .i64 self :: .int .i64 n :: b.cells) ∧ BoxF w' s [.pointer (some ⟨t, 0, none⟩)] ∧ BoxF w' t [.slice none 0 0, .map (some m), .int .i64 (min (max most 0) 65536)] ∧ NoMap w' m ∧ w.heap.size ≤ m ∧ m < t ∧ t < s ∧ s < q ∧ Below w.heap.size w w'
set_option maxHeartbeats 3200000 in
theorem relayNew (self n most : Int) (b : Bn) (w : World) : Calls Tryz.prog 64 #[.int .i64 self, .int .i64 n, .agg b.cells.toArray, .int .i64 most] w (RelayPost self n most b w) := by
  obtain ⟨bh, bf, bs, bl, br, ba, bst, be, bm, bc, bro, bde, bd, bj⟩ := b
  have k0 := boxF_made w (Bn.cells ⟨bh, bf, bs, bl, br, ba, bst, be, bm, bc, bro, bde, bd, bj⟩) 101
  have hb1 := (Below.refl w.heap.size w).alloc (Nat.le_refl _) (.cells (Bn.cells ⟨bh, bf, bs, bl, br, ba, bst, be, bm, bc, bro, bde, bd, bj⟩).toArray 101)
  obtain ⟨w1, hw1⟩ : ∃ w1, w.alloc (.cells (Bn.cells ⟨bh, bf, bs, bl, br, ba, bst, be, bm, bc, bro, bde, bd, bj⟩).toArray 101) = w1 := ⟨_, rfl⟩
  have hs1 : w1.heap.size = w.heap.size + 1 := by rw [← hw1]; simp
  rw [hw1] at k0 hb1
  have HS : Hid (∀ W, Below w1.heap.size w1 W → BoxF W w.heap.size (Bn.cells ⟨bh, bf, bs, bl, br, ba, bst, be, bm, bc, bro, bde, bd, bj⟩)) := fun W hW => k0.keep hW
  have HB := Lib.hid (And.intro hb1 hs1)
  have C := Lib.hid (fun W => seenNew most W)
  clear k0 hb1 hs1
  go_enter Tryz.func64, Tryz.ntmps64
  go_wp2_with fail
  refine wp_region_perm [] [0, 2, 3, 4] [1, 5, 6, 7] 8 12 (fun W => Below w1.heap.size w1 W) (by kernel_rfl) (by kernel_rfl) (by intro c a t v w h; exact h) ((Below.refl _ _).drew) ?_
  simp only [pickL, List.drop_succ_cons, List.drop_zero, List.head?_cons, Option.toList_some, List.cons_append, List.nil_append]
  refine wpHead_nil ?_
  iterate 4 (refine wpHead_step _ (by rfl) (by intro W hW; have zb := HS.out W hW; have z0 := zb.1 0 _ rfl; have z1 := zb.1 1 _ rfl; have z2 := zb.1 2 _ rfl; have z3 := zb.1 3 _ rfl; have z4 := zb.1 4 _ rfl; have z5 := zb.1 5 _ rfl; have z6 := zb.1 6 _ rfl; have z7 := zb.1 7 _ rfl; have z8 := zb.1 8 _ rfl; have z9 := zb.1 9 _ rfl; have z10 := zb.1 10 _ rfl; have z11 := zb.1 11 _ rfl; have z12 := zb.1 12 _ rfl; have z13 := zb.1 13 _ rfl; clear zb hW; go_simp; with_reducible rfl) ?_; simp only [Act.put, List.setIfInBounds_toArray, List.set_cons_zero, List.set_cons_succ])
  refine wpHead_nil ?_
  refine ⟨by rfl, ?_⟩
  go_simp
  go_at_call 133
  refine (C.out _).mono ?_
  rintro e w2 ⟨s, t, m, rfl, h1, h2, h3, h4, h5, h6, h7⟩
  have hb2 : Below w1.heap.size w1 w2 := (Below.refl _ _).drew.trans (show Below w1.heap.size w1.drew w2 from h7)
  have h4' : w1.heap.size ≤ m := h4
  have hb3 := (Below.refl w2.heap.size w2).alloc (Nat.le_refl _) (.cells #[.pointer (some ⟨s, 0, none⟩), .int .i64 self, .int .i64 n, .int .i64 bh, .int .i64 bf, .int .i64 bs, .int .i64 bl, .int .i64 br, .int .i64 ba, .int .i64 bst, .int .i64 be, .int .i64 bm, .int .i64 bc, .int .i64 bro, .int .i64 bde, .int .i64 bd, .int .i64 bj] 219)
  have hb23 : Below w1.heap.size w1 (w2.alloc (.cells #[.pointer (some ⟨s, 0, none⟩), .int .i64 self, .int .i64 n, .int .i64 bh, .int .i64 bf, .int .i64 bs, .int .i64 bl, .int .i64 br, .int .i64 ba, .int .i64 bst, .int .i64 be, .int .i64 bm, .int .i64 bc, .int .i64 bro, .int .i64 bde, .int .i64 bd, .int .i64 bj] 219)) := hb2.trans (hb3.mono hb2.size)
  have HF : Hid (RelayPost self n most ⟨bh, bf, bs, bl, br, ba, bst, be, bm, bc, bro, bde, bd, bj⟩ w (.returned (.pointer (some ⟨w2.heap.size, 0, none⟩))) (w2.alloc (.cells #[.pointer (some ⟨s, 0, none⟩), .int .i64 self, .int .i64 n, .int .i64 bh, .int .i64 bf, .int .i64 bs, .int .i64 bl, .int .i64 br, .int .i64 ba, .int .i64 bst, .int .i64 be, .int .i64 bm, .int .i64 bc, .int .i64 bro, .int .i64 bde, .int .i64 bd, .int .i64 bj] 219))) :=
    ⟨_, s, t, m, rfl, boxF_made w2 _ _, h1.keep hb3, h2.keep hb3, h3.keep hb3, by have := HB.out.2; omega, h5, h6, h1.lt (by simp), HB.out.1.trans (hb23.mono HB.out.1.size)⟩
  have H2 := Lib.hid (And.intro hb2 hb23)
  clear h1 h2 h3 h4 h4' h5 h6 h7 hb2 hb3 hb23
  refine ⟨H2.out.1, by rfl, ?_⟩
  go_simp
  refine ⟨H2.out.1, by rfl, ?_⟩
  go_simp
  refine ⟨H2.out.2, by rfl, ?_⟩
  go_simp
  refine ⟨H2.out.2, ?_⟩
  refine wpMid_nil ?_
  go_wp2
  go_ret
  exact HF.out
end Go.Proofs.YteahiphmhaedpaaGreatDoor

namespace Go.Proofs.YteahiphmhaedpaaGreatDoor
open Go.RowKit Law
set_option linter.unusedVariables false
set_option linter.unusedSimpArgs false
set_option maxRecDepth 100000

/-- All blocks but one are as they were. -/
structure FrB (b : Nat) (w w' : World) : Prop where
  os : w'.os = w.os
  tape : w'.tape = w.tape
  output : w'.output = w.output
  size : w.heap.size ≤ w'.heap.size
  block : ∀ k, k < w.heap.size → k ≠ b → w'.heap[k]? = w.heap[k]?
theorem FrB.refl (b : Nat) (w : World) : FrB b w w := ⟨rfl, rfl, rfl, Nat.le_refl _, fun _ _ _ => rfl⟩
theorem FrB.trans {b : Nat} {u v w : World} (h : FrB b u v) (k : FrB b v w) : FrB b u w :=
  ⟨k.os.trans h.os, k.tape.trans h.tape, k.output.trans h.output, Nat.le_trans h.size k.size, fun i hi hn => (k.block i (Nat.lt_of_lt_of_le hi h.size) hn).trans (h.block i hi hn)⟩
theorem FrB.set (w : World) (b o : Nat) (v : Value) : FrB b w (w.setCell ⟨b, o, none⟩ v) := ⟨rfl, rfl, rfl, by simp, fun k _ hk => Below.heap_setCell _ _ _ k hk⟩
theorem FrB.of {b : Nat} {w w' : World} (h : Below w.heap.size w w') : FrB b w w' := ⟨h.os, h.tape, h.output, h.size, fun k hk _ => h.block k hk⟩
theorem FrB.below {b B : Nat} {w w' : World} (h : FrB b w w') (hb : B ≤ b) (hB : B ≤ w.heap.size) : Below B w w' := ⟨h.os, h.tape, h.output, h.size, fun k hk => h.block k (by omega) (by omega)⟩
def MT : Int := 1152921504606846976
set_option maxHeartbeats 1600000 in
theorem clockSet {w : World} {b : Nat} {sl x y z : Value} (h : BoxF w b [sl, x, y, z]) (ph at_ : Int) : Calls Tryz.prog 135 #[.pointer (some ⟨b, 0, none⟩), .int .i64 ph, .int .i64 at_] w fun e w' => e = .returned (.int .i64 0) ∧ BoxF w' b [sl, .int .i64 ph, .int .i64 (clampI at_ 0 1152921504606846976), z] ∧ FrB b w w' := by
  have C := fun W => spanClamp at_ 0 1152921504606846976 W
  obtain ⟨v, hv⟩ : ∃ v, clampI at_ 0 1152921504606846976 = v := ⟨_, rfl⟩
  rw [hv] at C ⊢
  have CT : ∀ W, Calls Tryz.prog 189 #[.int .i64 at_] W fun e w' => e = .returned (.int .i64 v) ∧ W = w' := fun W => by
    have C := Lib.hid (C W)
    go_enter Tryz.func189, Tryz.ntmps189
    go_wp2_with fail
    refine C.out.mono ?_
    rintro e w1 ⟨rfl, rfl⟩
    go_wp2
    go_ret
    exact ⟨rfl, rfl⟩
  have CT := Lib.hid CT
  clear C hv
  have p1 := h.put 1 (by simp) (.int .i64 ph)
  have p2 := p1.put 2 (by simp) (.int .i64 v)
  simp only [List.set_cons_succ, List.set_cons_zero] at p2
  have HF := Lib.hid (And.intro p2 ((FrB.set w b 1 (.int .i64 ph)).trans (FrB.set _ b 2 (.int .i64 v))))
  have c1 := h.1 1 _ rfl
  have c2 := h.1 2 _ rfl
  have f1 := h.2 1 (by simp)
  have f2 := h.2 2 (by simp)
  clear h p1 p2
  go_enter Tryz.func135, Tryz.ntmps135
  go_wp2_with fail
  refine (CT.out _).mono ?_
  rintro e w1 ⟨rfl, rfl⟩
  go_wp2
  go_ret
  exact ⟨rfl, HF.out⟩
theorem clockBoot {w : World} {b : Nat} {sl y z : Value} (h : BoxF w b [sl, .int .i64 0, y, z]) (at_ : Int) : Calls Tryz.prog 74 #[.pointer (some ⟨b, 0, none⟩), .int .i64 at_] w fun e w' => e = .returned (.int .i64 0) ∧ BoxF w' b [sl, .int .i64 2, .int .i64 (clampI at_ 0 1152921504606846976), z] ∧ FrB b w w' := by
  have C := Lib.hid (clockSet h 2 at_)
  have c1 := h.1 1 _ rfl
  clear h
  go_enter Tryz.func74, Tryz.ntmps74
  go_wp2_with fail
  refine C.out.mono ?_
  rintro e w1 ⟨rfl, h1, h2⟩
  have H := Lib.hid (And.intro h1 h2)
  clear h1 h2
  go_wp2
  go_ret
  exact ⟨rfl, H.out⟩
theorem joinMove {w : World} {b : Nat} {s : Int} {x y : Value} (h : BoxF w b [.int .i64 s, x, y]) (to : Int) : Calls Tryz.prog 136 #[.pointer (some ⟨b, 0, none⟩), .int .i64 s, .int .i64 to] w fun e w' => e = .returned (.int .i64 0) ∧ BoxF w' b [.int .i64 to, x, y] ∧ FrB b w w' := by
  have p1 := h.put 0 (by simp) (.int .i64 to)
  simp only [List.set_cons_zero] at p1
  have HF := Lib.hid (And.intro p1 (FrB.set w b 0 (.int .i64 to)))
  have c0 := h.1 0 _ rfl
  have f0 := h.2 0 (by simp)
  clear h p1
  go_enter Tryz.func136, Tryz.ntmps136
  go_wp2
  go_ret
  exact ⟨rfl, HF.out⟩
theorem joinBoot {w : World} {b : Nat} {x y : Value} (h : BoxF w b [.int .i64 0, x, y]) : Calls Tryz.prog 75 #[.pointer (some ⟨b, 0, none⟩)] w fun e w' => e = .returned (.int .i64 0) ∧ BoxF w' b [.int .i64 2, .int .i64 0, .int .i64 0] ∧ FrB b w w' := by
  have C := Lib.hid (joinMove h 2)
  clear h
  go_enter Tryz.func75, Tryz.ntmps75
  go_wp2_with fail
  refine C.out.mono ?_
  rintro e w1 ⟨rfl, h1, h2⟩
  have p1 := (h1.put 1 (by simp) (.int .i64 0)).put 2 (by simp) (.int .i64 0)
  simp only [List.set_cons_succ, List.set_cons_zero] at p1
  have HF := Lib.hid (And.intro p1 ((h2.trans (FrB.set w1 b 1 (.int .i64 0))).trans (FrB.set _ b 2 (.int .i64 0))))
  have c1 := h1.1 1 _ rfl
  have c2 := h1.1 2 _ rfl
  have f1 := h1.2 1 (by simp)
  have f2 := h1.2 2 (by simp)
  clear h1 h2 p1
  go_wp2
  go_ret
  exact ⟨rfl, HF.out⟩
end Go.Proofs.YteahiphmhaedpaaGreatDoor

namespace Go.Proofs.YteahiphmhaedpaaGreatDoor
open Go.RowKit Law
set_option linter.unusedVariables false
set_option linter.unusedSimpArgs false
set_option maxRecDepth 100000

theorem clockNow {w : World} {b : Nat} {sl z : Value} {p a : Int} (h : BoxF w b [sl, .int .i64 p, .int .i64 a, z]) (hp : p ≠ 0) : Calls Tryz.prog 219 #[.pointer (some ⟨b, 0, none⟩)] w fun e w' => e = .returned (.tuple #[.int .i64 a, .bool true]) ∧ w = w' := by
  have C := Lib.hid (clockPhase h)
  have c2 := h.1 2 _ rfl
  have hp' : (p == 0) = false := beq_eq_false_iff_ne.2 hp
  clear h hp
  go_enter Tryz.func219, Tryz.ntmps219
  go_wp2_with fail
  refine C.out.mono ?_
  rintro e w1 ⟨rfl, rfl⟩
  go_wp2
  go_ret2
  exact ⟨rfl, rfl⟩
theorem joinMember {w : World} {b : Nat} {s : Int} {x y : Value} (h : BoxF w b [.int .i64 s, x, y]) (hs : s = 2 ∨ s = 3) : Calls Tryz.prog 252 #[.pointer (some ⟨b, 0, none⟩)] w fun e w' => e = .returned (.bool true) ∧ w = w' := by
  have C := Lib.hid (joinState h)
  clear h
  rcases hs with rfl | rfl
  all_goals
    go_enter Tryz.func252, Tryz.ntmps252
    go_wp2_with fail
    refine C.out.mono ?_
    rintro e w1 ⟨rfl, rfl⟩
    go_wp2
    go_ret
    exact ⟨rfl, rfl⟩
theorem joinSince {w : World} {b : Nat} {s q : Int} {x : Value} (h : BoxF w b [.int .i64 s, x, .int .i64 q]) (hs : s = 2 ∨ s = 3) : Calls Tryz.prog 179 #[.pointer (some ⟨b, 0, none⟩)] w fun e w' => e = .returned (.tuple #[.int .i64 q, .bool true]) ∧ w = w' := by
  have C := Lib.hid (joinMember h hs)
  have c2 := h.1 2 _ rfl
  clear h hs
  go_enter Tryz.func179, Tryz.ntmps179
  go_wp2_with fail
  refine C.out.mono ?_
  rintro e w1 ⟨rfl, rfl⟩
  go_wp2
  go_ret2
  exact ⟨rfl, rfl⟩
end Go.Proofs.YteahiphmhaedpaaGreatDoor
