/- Slices of ints, and the reference's lists: in, power, Has, List, Of. -/
import Derived.Test.YtfkfheddhnjaaaaGreatSetA
import Derived.Laws.OwnMore
import Derived.OwnWalk
import Derived.Lib.SmallJoins
namespace Go.Proofs.YtfkfheddhnjaaaaGreat
open Go.RowKit Law
set_option linter.unusedVariables false
set_option linter.unusedSimpArgs false
set_option maxRecDepth 100000

/-- A slice value's address and the ints that it reads as. -/
def IntsAt (w : World) (A : Option Addr) (zs : List Int) : Prop :=
  ∀ (k : Nat) (z : Int), zs[k]? = some z → ∃ b off, A = some ⟨b, off, none⟩ ∧ b < w.heap.size ∧ w.cell? ⟨b, off + k, none⟩ = some (.int .i64 z)
theorem IntsAt.below {w w' : World} {A : Option Addr} {zs : List Int} (h : IntsAt w A zs) (hb : Below w.heap.size w w') : IntsAt w' A zs := fun k z hz => by
  obtain ⟨b, off, rfl, hlt, hc⟩ := h k z hz
  exact ⟨b, off, rfl, Nat.lt_of_lt_of_le hlt hb.size, by rw [hb.cell (p := ⟨b, off + k, none⟩) hlt]; exact hc⟩
theorem IntsAt.take {w : World} {A : Option Addr} {zs : List Int} (h : IntsAt w A zs) (n : Nat) : IntsAt w A (zs.take n) := fun k z hz => h k z (by
  rw [List.getElem?_take] at hz
  split at hz
  · exact hz
  · cases hz)
theorem IntsAt.at_ {w wr : World} {A : Option Addr} {zs : List Int} (h : IntsAt w A zs) (hb : Below w.heap.size w wr) {k : Nat} (hk : k < zs.length) :
    ∃ b off, A = some ⟨b, off, none⟩ ∧ wr.cell? ⟨b, off + k, none⟩ = some (.int .i64 zs[k]) := by
  obtain ⟨b, off, rfl, hlt, hc⟩ := (h.below hb) k zs[k] (List.getElem?_eq_getElem hk)
  exact ⟨b, off, rfl, hc⟩
theorem intInfo : (Tryz.prog.info? 3).map (fun i => (i.zero, i.size, i.bytes)) = some (some (.int .i64 0), 1, 8) := by kernel_rfl
/-- The row is kept where only new memory is made. -/
theorem own_below {w w' : World} {base size n : Nat} {e : TypeId} {v : Value} {xs : List Value} (h : w.ownsRow base e size v n xs) (hb : Below w.heap.size w w') : w'.ownsRow base e size v n xs :=
  h.kept (row := none) ⟨hb.os, hb.tape, hb.output, hb.size, fun i hi _ => hb.block i hi⟩ (by cases hv : v.ownBlock <;> simp)
theorem own_form {w : World} {base n : Nat} {e : TypeId} {v : Value} {xs : List Value} (h : w.ownsRow base e 1 v n xs) : ∃ A c, v = .slice A n c ∧ n ≤ c := by
  rcases h.2 with ⟨hv, h0⟩ | ⟨g, cap, cur, hv, _, _, hc, _⟩
  · exact ⟨none, 0, by rw [hv, h0], by omega⟩
  · exact ⟨_, _, hv, hc⟩
abbrev intV (zs : List Int) : List Value := zs.map (Value.int .i64)
/-- A row of the call's own reads as its ints. -/
theorem ownInts {w : World} {base : Nat} {A : Option Addr} {n c : Nat} {zs : List Int} (h : w.ownsRow base 3 1 (.slice A n c) n (intV zs)) : IntsAt w A zs := by
  intro k z hz
  have hk : k < zs.length := (List.getElem?_eq_some_iff.1 hz).1
  have hn : zs.length = n := by have := h.1; simpa using this
  obtain ⟨g, cap, hv⟩ := Joins.ownsRow_form h (by omega)
  obtain rfl : A = some ⟨g, 0, none⟩ := by injection hv
  refine ⟨g, 0, rfl, (h.lt g rfl).2, ?_⟩
  have := h.cells (g := g) rfl k (.int .i64 z) (by rw [List.getElem?_map, hz]; rfl)
  rwa [Lib.add_plain] at this

/-! ### in -/
def inI (l : List Int) (x : Int) : Bool := l.any (· == x)
theorem inI_snoc (l : List Int) (k : Nat) (hk : k < l.length) (x : Int) : inI (l.take (k + 1)) x = (inI (l.take k) x || l[k] == x) := by
  unfold inI
  rw [List.take_succ_eq_append_getElem hk, List.any_append]
  simp
theorem inI_hit {l : List Int} {k : Nat} (hk : k < l.length) {x : Int} (h : (l[k] == x) = true) : inI l x = true := by
  unfold inI
  rw [List.any_eq_true]
  exact ⟨l[k], List.getElem_mem hk, h⟩
/-! ### power, Has -/
def pw (k : Nat) : Nat := 2 ^ k
theorem pw_succ (k : Nat) : pw (k + 1) = pw k * 2 := Nat.pow_succ ..
theorem pw_pos (k : Nat) : 1 ≤ pw k := Nat.two_pow_pos k
theorem pw_le {k : Nat} (h : k < 64) : pw k ≤ 9223372036854775808 := by
  have : 2 ^ k ≤ 2 ^ 63 := Nat.pow_le_pow_right (by decide) (by omega)
  exact this
theorem hasB_yes (s k : Nat) (hk : k < 64) : hasB s (k : Int) = s.testBit k := by
  unfold hasB
  have : (k : Int) < 64 := by omega
  simp [this]
theorem hasB_no {s : Nat} {i : Int} (h : ¬ (0 ≤ i ∧ i < 64)) : hasB s i = false := by
  unfold hasB
  simp [h]
theorem has_div (s k : Nat) : (((s : Int) / (pw k : Int) % 2) == 1) = s.testBit k := by
  rw [Nat.testBit_eq_decide_div_mod_eq, ← Int.natCast_ediv, Bool.eq_iff_iff, beq_iff_eq, decide_eq_true_eq]
  show (((s / 2 ^ k : Nat) : Int) % 2 = 1) ↔ _
  omega
/-! ### List -/
def elsK (s k : Nat) : List Int := ((List.range k).filter s.testBit).map Int.ofNat
theorem elsK_len (s k : Nat) : (elsK s k).length ≤ k := by
  unfold elsK
  rw [List.length_map]
  have := List.length_filter_le s.testBit (List.range k)
  simpa using this
theorem elsK_yes {s k : Nat} (h : s.testBit k = true) : elsK s (k + 1) = elsK s k ++ [(k : Int)] := by
  unfold elsK
  rw [List.range_succ, List.filter_append]
  simp [h]
theorem elsK_no {s k : Nat} (h : s.testBit k = false) : elsK s (k + 1) = elsK s k := by
  unfold elsK
  rw [List.range_succ, List.filter_append]
  simp [h]
theorem elsK_all (s : Nat) : elsK s 64 = elsI s := rfl
/-! ### Of -/
theorem ofP_yes {p : Nat → Bool} {k : Nat} (h : p k = true) : ofP p (k + 1) = ofP p k + pw k := by
  show ofP p k + (if p k then 2 ^ k else 0) = _
  rw [if_pos h]
  rfl
theorem ofP_no {p : Nat → Bool} {k : Nat} (h : p k = false) : ofP p (k + 1) = ofP p k := by
  show ofP p k + (if p k then 2 ^ k else 0) = _
  rw [if_neg (by simp [h])]
  rfl
theorem ofP_le (p : Nat → Bool) {k : Nat} (h : k ≤ 64) : ofP p k < 18446744073709551616 := by
  have h1 := ofP_lt p k
  have : 2 ^ k ≤ 2 ^ 64 := Nat.pow_le_pow_right (by decide) h
  omega
end Go.Proofs.YtfkfheddhnjaaaaGreat
