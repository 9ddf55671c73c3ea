/- bound.Suggest: the least periods. -/
import Derived.Test.YteahiphmhaedpaaGreatDoorCfE
namespace Go.Proofs.YteahiphmhaedpaaGreatDoor
open Go.RowKit Law Go.Shelf
set_option linter.unusedVariables false
set_option linter.unusedSimpArgs false
set_option maxRecDepth 100000
attribute [local go_sem] Oper.semAt_some

def baseC (c : Cn) (k : Nat) : Cn := { c with round := 2 ^ k, window := 2 ^ (k - 2), attend := 1 }
def stepC (c : Cn) (k : Nat) : Cn := { baseC c k with attend := 2 * bDelta (baseC c k) }
def sugF (c : Cn) : Nat → Nat → Cn
  | 0, _ => c
  | f + 1, k => if enoughB (stepC c k) then stepC c k else sugF c f (k + 1)
def sugC (c : Cn) : Cn := sugF c 29 12
theorem pow_fit {k : Nat} (h1 : 12 ≤ k) (h2 : k ≤ 40) : (4096 : Int) ≤ 2 ^ k ∧ (2 : Int) ^ k ≤ 1099511627776 := by
  have a : 2 ^ 12 ≤ 2 ^ k := Nat.pow_le_pow_right (by decide) h1
  have b : 2 ^ k ≤ 2 ^ 40 := Nat.pow_le_pow_right (by decide) h2
  have e : ((2 ^ k : Nat) : Int) = (2 : Int) ^ k := by simp
  omega
theorem pow_four {k : Nat} (h : 2 ≤ k) : (2 : Int) ^ k = 4 * 2 ^ (k - 2) := by
  obtain ⟨m, rfl⟩ : ∃ m, k = m + 2 := ⟨k - 2, by omega⟩
  rw [Nat.add_sub_cancel, Int.pow_succ, Int.pow_succ]; omega
theorem perB_pow {x : Int} (h1 : 1 ≤ x) (h2 : x ≤ 1099511627776) : perB x = true := by
  unfold perB; simp; omega
theorem good_base {c : Cn} {k j : Nat} (h1 : 12 ≤ k) (h2 : k ≤ 40) (g1 : 12 ≤ j) (g2 : j ≤ 40) : goodC (baseC c k) = goodC (baseC c j) := by
  have a := pow_fit h1 h2
  have b := pow_fit g1 g2
  have a4 := pow_four (k := k) (by omega)
  have b4 := pow_four (k := j) (by omega)
  unfold goodC baseC
  simp only [perB_pow (show 1 ≤ (2 : Int) ^ k by omega) a.2, perB_pow (show 1 ≤ (2 : Int) ^ j by omega) b.2, perB_pow (show 1 ≤ (2 : Int) ^ (k - 2) by omega) (by omega), perB_pow (show 1 ≤ (2 : Int) ^ (j - 2) by omega) (by omega)]
theorem step_bad {c : Cn} {k : Nat} (h : goodC (baseC c k) = false) : enoughB (stepC c k) = false := by
  have : goodC (stepC c k) = false := by
    have h1 : perB (baseC c k).attend = true := by show perB 1 = true; decide
    have e : goodC (stepC c k) = (goodC (baseC c k) && perB (2 * bDelta (baseC c k))) := by
      have h2 : goodC (baseC c k) = (goodC (baseC c k) && perB (baseC c k).attend) := by rw [h1, Bool.and_true]
      unfold goodC at *
      rw [h1, Bool.and_true]
      rfl
    rw [e, h]; rfl
  unfold enoughB; rw [this]; rfl
theorem sug_bad {c : Cn} (h : goodC (baseC c 12) = false) : ∀ f k, 12 ≤ k → f + k ≤ 41 → sugF c f k = c
  | 0, k, _, _ => rfl
  | f + 1, k, h1, h2 => by
    have hb := step_bad (c := c) (k := k) (by rw [good_base (j := 12) h1 (by omega) (by omega) (by omega)]; exact h)
    show (if enoughB (stepC c k) then _ else _) = c
    rw [if_neg (by rw [hb]; decide)]
    exact sug_bad h f (k + 1) (by omega) (by omega)
theorem sug_step {c : Cn} {k : Nat} (h : k ≤ 40) : sugF c (41 - k) k = if enoughB (stepC c k) then stepC c k else sugF c (41 - (k + 1)) (k + 1) := by
  rw [show 41 - k = (40 - k) + 1 by omega, show 41 - (k + 1) = 40 - k by omega]; rfl
theorem step_delta {c : Cn} {k : Nat} (h : goodC (baseC c k) = true) : 0 ≤ bDelta (baseC c k) ∧ bDelta (baseC c k) ≤ 200000000000000000 := by
  obtain ⟨a, b⟩ := (bd_ok h).delta
  constructor <;> omega
def SugPost (c : Cn) (A : Option Addr) (l k : Nat) (w : World) (e : Ending) (w' : World) : Prop := (∃ b : Bool, e = .returned (.tuple #[.agg ((sugC c).cells A l k).toArray, .bool b])) ∧ Below w.heap.size w w'
/-- How it stands ahead of a round. -/
structure SgS (w W : World) (cs : List Value) : Prop where
  cfg : BoxF W w.heap.size cs
  zb : BoxF W (w.heap.size + 1) [.int .i64 0, .slice none 0 0, .int .i64 0, .int .i64 0, .int .i64 0, .int .i64 0, .int .i64 0, .int .i64 0, .int .i64 0, .int .i64 0, .int .i64 0, .int .i64 0, .int .i64 0, .int .i64 0, .int .i64 0]
  bel : Below w.heap.size w W
theorem SgS.keep {w W W' : World} {cs : List Value} (h : SgS w W cs) (hb : Below W.heap.size W W') : SgS w W' cs := ⟨h.cfg.keep hb, h.zb.keep hb, h.bel.trans (hb.mono h.bel.size)⟩
theorem SgS.put {w W : World} {cs : List Value} (h : SgS w W cs) {D : Nat} (hD : w.heap.size + 1 < D) (j : Nat) (v : Value) : SgS w (W.setCell ⟨D, j, none⟩ v) cs :=
  ⟨h.cfg.other (a := ⟨D, j, none⟩) (by show D ≠ _; omega) v, h.zb.other (a := ⟨D, j, none⟩) (by show D ≠ _; omega) v, h.bel.setCell (p := ⟨D, j, none⟩) (by show w.heap.size ≤ D; omega) v⟩
/-- The same, and the box of what is tried. -/
structure SgD (w W : World) (cs : List Value) (D : Nat) (ds : List Value) : Prop where
  s : SgS w W cs
  bx : BoxF W D ds
  lt : w.heap.size + 1 < D
theorem SgD.keep {w W W' : World} {cs ds : List Value} {D : Nat} (h : SgD w W cs D ds) (hb : Below W.heap.size W W') : SgD w W' cs D ds := ⟨h.s.keep hb, h.bx.keep hb, h.lt⟩
theorem SgD.put {w W : World} {cs ds : List Value} {D : Nat} (h : SgD w W cs D ds) (j : Nat) (hj : j < ds.length) (v : Value) : SgD w (W.setCell ⟨D, j, none⟩ v) cs D (ds.set j v) := ⟨h.s.put h.lt j v, h.bx.put j hj v, h.lt⟩
def storeN (B : Nat) : World → List Value → Nat → World
  | W, [], _ => W
  | W, v :: r, j => storeN B (W.setCell ⟨B, j, none⟩ v) r (j + 1)
theorem storeN_box (B : Nat) : ∀ (vs : List Value) (W : World) (a b : List Value), b.length = vs.length → BoxF W B (a ++ b) → BoxF (storeN B W vs a.length) B (a ++ vs)
  | [], W, a, b, hb, h => by
    have : b = [] := List.eq_nil_of_length_eq_zero (by simpa using hb)
    subst this; exact h
  | v :: r, W, a, [], hb, h => by simp at hb
  | v :: r, W, a, x :: b, hb, h => by
    have h1 := h.put a.length (by simp) v
    rw [List.set_append_right _ _ (Nat.le_refl _), Nat.sub_self, List.set_cons_zero] at h1
    have h2 := storeN_box B r (W.setCell ⟨B, a.length, none⟩ v) (a ++ [v]) b (by simpa using hb) (by simpa using h1)
    simpa [storeN] using h2
theorem SgS.storeN {w : World} {cs : List Value} {D : Nat} (hD : w.heap.size + 1 < D) : ∀ (vs : List Value) (W : World) (j : Nat), SgS w W cs → SgS w (Go.Proofs.YteahiphmhaedpaaGreatDoor.storeN D W vs j) cs
  | [], W, j, h => h
  | v :: r, W, j, h => SgS.storeN hD r _ (j + 1) (h.put hD j v)
theorem storeN_below {N : Nat} (B : Nat) (hB : N ≤ B) : ∀ (vs : List Value) (w W : World) (j : Nat), Below N w W → Below N w (storeN B W vs j)
  | [], w, W, j, h => h
  | v :: r, w, W, j, h => storeN_below B hB r w _ (j + 1) (h.setCell (p := ⟨B, j, none⟩) hB v)
end Go.Proofs.YteahiphmhaedpaaGreatDoor
