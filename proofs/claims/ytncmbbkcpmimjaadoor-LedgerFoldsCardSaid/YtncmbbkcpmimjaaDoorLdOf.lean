/- A ledger read as a whole, as a rule of the walk. -/
import Derived.Test.YtncmbbkcpmimjaaDoorLedC
import Derived.Deep.MidRow
namespace Go.Proofs.YtncmbbkcpmimjaaDoor
open Go.RowKit Law
set_option linter.unusedVariables false

def LdFit (w : World) (b : Nat) : Prop := ∃ l : Ld, l.Fits ∧ LdAt w b l
def ldOf (w : World) (b : Nat) : Array Value := ((List.range 66).map fun j => (w.cell? ⟨b, j, none⟩).getD undef).toArray
theorem ldOf_eq {w : World} {b : Nat} {l : Ld} (hf : l.Fits) (h : LdAt w b l) : ldOf w b = l.cells.toArray := by
  unfold ldOf
  congr 1
  apply List.ext_getElem?
  intro j
  rw [List.getElem?_map]
  by_cases hj : j < 66
  · rw [List.getElem?_range hj]
    have hl : j < l.cells.length := by rw [Ld.len hf]; exact hj
    have := h j l.cells[j] (List.getElem?_eq_getElem hl)
    rw [Nat.zero_add] at this
    rw [List.getElem?_eq_getElem hl]
    simp [this]
  · rw [List.getElem?_eq_none (by simpa using hj), List.getElem?_eq_none (by rw [Ld.len hf]; omega)]
    rfl
/-- The rule. -/
theorem run_ldOf (w : World) (b : Nat) (h : LdFit w b) : (Instr.loadAt 26 (.pointer (some ⟨b, 0, none⟩))).run Tryd.prog w = .ok (.agg (ldOf w b)) w := by
  obtain ⟨l, hf, ha⟩ := h
  rw [ldOf_eq hf ha]
  exact ha.load hf
def ptr0 : Value → Bool
  | .pointer (some ⟨_, 0, none⟩) => true
  | _ => false
def ptrB : Value → Nat
  | .pointer (some a) => a.block
  | _ => 0
theorem ptr0_mk (b : Nat) : ptr0 (.pointer (some ⟨b, 0, none⟩)) = true := rfl
theorem ptrB_mk (b o : Nat) : ptrB (.pointer (some ⟨b, o, none⟩)) = b := rfl
theorem exec_ld {ev : Operand → Value} {x : Operand} {dst : Option Tmp} {ty : TypeId} {pos : String} {after : Array Edge} {guard : Option (Nat × Bool)} {w : World} (hx : ptr0 (ev x) = true) (h : LdFit w (ptrB (ev x))) :
    (execOp ev ⟨dst, .load 26 x, ty, pos, after, guard⟩).run Tryd.prog w = .ok (.value (.agg (ldOf w (ptrB (ev x))))) w := by
  have hv : ∃ b, ev x = .pointer (some ⟨b, 0, none⟩) := by
    revert hx
    unfold ptr0
    split
    · rename_i b he; intro _; exact ⟨b, he⟩
    · intro hh; cases hh
  obtain ⟨b, hb⟩ := hv
  rw [hb, ptrB_mk] at h ⊢
  unfold execOp
  simp only [hb, Sem.run_bind, run_ldOf w b h, Result.andThen_ok, Sem.run_pure]
/-- The two facts that the rule wants, of a world. -/
structure LdHas (l : Ld) (b : Nat) (w : World) : Prop where
  fit : LdFit w b
  eq : ldOf w b = l.cells.toArray
theorem LdHas.of {l : Ld} {b : Nat} {w : World} (hf : l.Fits) (h : LdAt w b l) : LdHas l b w := ⟨⟨l, hf, h⟩, ldOf_eq hf h⟩
/-! ### a ledger written as a whole, as a rule -/
def StOk (w : World) (b : Nat) : Prop := ∃ l : Ld, l.Fits ∧ LdBox w b l
def LdVal (v : Value) : Prop := ∃ l : Ld, l.Fits ∧ v = .agg l.cells.toArray
def aggL : Value → List Value
  | .agg a => a.toList
  | _ => []
theorem aggL_mk (l : List Value) : aggL (.agg l.toArray) = l := rfl
theorem exec_st {ev : Operand → Value} {x y : Operand} {dst : Option Tmp} {ty : TypeId} {pos : String} {after : Array Edge} {guard : Option (Nat × Bool)} {w : World} (hx : ptr0 (ev x) = true) (h : StOk w (ptrB (ev x))) (hv : LdVal (ev y)) :
    (execOp ev ⟨dst, .store 26 x y, ty, pos, after, guard⟩).run Tryd.prog w = .ok .skip (w.setCells (ptrB (ev x)) 0 (aggL (ev y))) := by
  have hb : ∃ b, ev x = .pointer (some ⟨b, 0, none⟩) := by
    revert hx
    unfold ptr0
    split
    · rename_i b he; intro _; exact ⟨b, he⟩
    · intro hh; cases hh
  obtain ⟨b, hb⟩ := hb
  rw [hb, ptrB_mk] at h ⊢
  obtain ⟨l, hf, hB⟩ := h
  obtain ⟨l', hf', hv⟩ := hv
  have h1 := (hB.store hf hf').1
  unfold Ld.val at h1
  unfold execOp
  simp only [hb, hv, Sem.run_bind, h1, Result.andThen_ok, Sem.run_pure, aggL_mk]
theorem LdBox.stOk {w : World} {b : Nat} {l : Ld} (h : LdBox w b l) (hf : l.Fits) : StOk w b := ⟨l, hf, h⟩
theorem Ld.Fits.val {l : Ld} (h : l.Fits) : LdVal (.agg l.cells.toArray) := ⟨l, h, rfl⟩
theorem LdBox.put {w : World} {b : Nat} {l l' : Ld} (h : LdBox w b l) (hf : l.Fits) (hf' : l'.Fits) : LdBox (w.setCells b 0 l'.cells) b l' := (h.store hf hf').2
theorem LdBox.putApart {w : World} {b b' : Nat} {l : Ld} (h : LdBox w b l) (hne : b ≠ b') (vs : List Value) : LdBox (w.setCells b' 0 vs) b l :=
  ⟨World.rangeAt_setCells_apart h.1 b' 0 vs (.inl hne), fun j hj => by rw [World.frozen?_setCells]; exact h.2 j hj⟩
end Go.Proofs.YtncmbbkcpmimjaaDoor
