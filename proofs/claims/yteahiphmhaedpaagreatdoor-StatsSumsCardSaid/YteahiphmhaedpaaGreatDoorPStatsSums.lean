/- The Go function angeluslaw55.StatsSums returns true for every input, and every argument reads behind the call as it read before; the tables that the row lists are tied to the program's text. No condition besides. -/
import Derived.Test.YteahiphmhaedpaaGreatDoorCards
import Derived.Test.YteahiphmhaedpaaGreatDoorTie
import Derived.Test.YteahiphmhaedpaaGreatDoorQStatsSums
namespace Go.Proofs.YteahiphmhaedpaaGreatDoor.statsSums
open Go.ChangeShapes Go.WideShapes Go.ChangeAt Go.RowKit
open Go.Proofs.YteahiphmhaedpaaGreatDoor.Law
theorem plain (f : FuncId) (fn : Func) (hf : Tryz.pinned.checked.prog.funcNamed "angelus/angeluslaw55.StatsSums" = some f) (hfn : Tryz.pinned.checked.prog.funcs[f]? = some fn) :
    false = Tryz.pinned.checked.prog.looks [] ∧ ∀ (j : Nat) t, fn.params[j]? = some t → Tryz.pinned.checked.prog.wantsStandIn t = false := by
  obtain rfl : f = 3 := Option.some.inj ((show Tryz.prog.funcNamed "angelus/angeluslaw55.StatsSums" = some 3 by kernel_rfl).symm.trans hf) |>.symm
  obtain rfl : fn = Tryz.f3 := (Option.some.inj (Tryz.func3.symm.trans hfn)).symm
  refine ⟨by kernel_rfl, fun j t ht => ?_⟩
  rw [Tryz.params3] at ht
  have hm : t = 22 := by
    have := Array.mem_of_getElem? ht
    simpa using this
  rcases hm with rfl
  · exact (show Tryz.prog.wantsStandIn 22 = false by kernel_rfl)
theorem noneGoes : Tryz.pinned.checked.prog.funcs.any Func.goes = false := by kernel_rfl
theorem goes_none {P : Program} (h : P.funcs.any Func.goes = false) (f : FuncId) : P.goes f = false := by
  have h1 : ∀ g : FuncId, (P.funcs[g]?).any Func.goes = false := fun g => by
    cases hg : P.funcs[g]? with
    | none => rfl
    | some fn =>
      have hm := Array.mem_of_getElem? hg
      have hn := (Array.any_eq_false'.1 h) fn hm
      simpa using hn
  simp only [Program.goes, h, h1, Bool.and_false, Bool.or_false]
  exact List.any_eq_false.2 fun _ _ => by simp
theorem goes : false = Rows.statsSumsRow.goesBy Tryz.pinned.checked.prog := by
  have h1 := goes_none noneGoes
  have h2 : ∀ o : Option FuncId, o.any Tryz.pinned.checked.prog.goes = false := fun o => by cases o <;> simp [h1]
  have h3 : Rows.statsSumsRow.start = .entering := rfl
  unfold OpenClaim.goesBy Program.goesAt Program.goesFrom
  rw [h2, h3]
  rfl
theorem card : Rows.StatsSumsCardSaid :=
  Claim7.holds_tied_plain_at .later [] _ _ _ _ said (fun _ h => by cases h) (by as_aux_lemma => kernel_rfl) (fun _ h => by cases h) statsSums_row_tie rfl ⟨rfl, rfl⟩ (by as_aux_lemma => kernel_rfl) rfl plain goes
end Go.Proofs.YteahiphmhaedpaaGreatDoor.statsSums
