/-
  DERIVED. GIVEN WITH THE SEED: THE CARDS: each row of YteahiphmhaedpaaGreatDoorRows.lean that lists a variable, with what it lists TIED to the program's text (the seventh form; the later family's looks); each row that meets fmt, with fmt's text TOLD by the authors' own Lean function (tested against real Go, not proved from fmt's source: count such statements apart). THE CARD IS WHAT COUNTS. Prove the row's statement (the work); the ties are given (YteahiphmhaedpaaGreatDoorTie.lean); close each card by the builder's one call (the guide's Derived/Test/ToyasCard.lean, 'card_holds'). Laid BY PROGRAM, IN A SANDBOX (cutbox-door.mjs). By AI agents, Wed Nov 11 2026. No macro, syntax, notation, axiom, sorry.
-/
import Derived.Test.YteahiphmhaedpaaGreatDoorRows
import GoSem.ClaimSeven
namespace Go.Proofs.YteahiphmhaedpaaGreatDoor
namespace Rows

/-- THE TIED CARD OF 'angeluslaw55.StatsSums'. -/
def statsSumsCard : Claim7 := { stood := { row := statsSumsRow, standIns := [], harness := (true, "b44898b6c13c7cbcf138afc1727d13b118562836d86b7264733700dfeb3f8e8c"), looks := false }, kinds := [], alts := [], laidByText := true, laidKinds := [.data], laidTests := true, laidLooks := .later }
def StatsSumsCardSaid : Prop := Claim7.holds Tryz.pinned (.plain (OpenSpec.ofChange statsSumsSpec)) statsSumsCard

/-- THE SECOND FORM's CARD OF 'angeluslaw55.StatsSums'. -/
def statsSumsUptoCard : Claim7 := { stood := { row := statsSumsUptoRow, standIns := [], harness := (true, "b44898b6c13c7cbcf138afc1727d13b118562836d86b7264733700dfeb3f8e8c"), looks := false }, kinds := [], alts := [], laidByText := true, laidKinds := [.data], laidTests := true, laidLooks := .later }
def StatsSumsUptoCardSaid : Prop := Claim7.holds Tryz.pinned (.plain (OpenSpec.upto statsSumsSpec)) statsSumsUptoCard
end Rows
end Go.Proofs.YteahiphmhaedpaaGreatDoor
