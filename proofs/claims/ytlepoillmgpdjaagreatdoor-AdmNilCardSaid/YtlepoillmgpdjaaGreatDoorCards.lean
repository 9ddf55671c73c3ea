/-
  DERIVED. GIVEN WITH THE SEED: THE CARDS: each row of YtlepoillmgpdjaaGreatDoorRows.lean that lists a variable, with what it lists TIED to the program's text (the seventh form; the later family's looks); each row that meets fmt, with fmt's text TOLD by the authors' own Lean function (tested against real Go, not proved from fmt's source: count such statements apart). THE CARD IS WHAT COUNTS. Prove the row's statement (the work); the ties are given (YtlepoillmgpdjaaGreatDoorTie.lean); close each card by the builder's one call (the guide's Derived/Test/ToyasCard.lean, 'card_holds'). Laid BY PROGRAM, IN A SANDBOX (cutbox-door.mjs). By AI agents, Wed Nov 11 2026. No macro, syntax, notation, axiom, sorry.
-/
import Derived.Test.YtlepoillmgpdjaaGreatDoorRows
import GoSem.ClaimSeven
namespace Go.Proofs.YtlepoillmgpdjaaGreatDoor
namespace Rows

/-- THE TIED CARD OF 'angeluslaw51.AdmNil'. -/
def admNilCard : Claim7 := { stood := { row := admNilRow, standIns := [], harness := (true, "204880c0a2b6af0b336117e75dad19eaefc5f61a625539fbaf1cbb61f39dc79b"), looks := false }, kinds := [], alts := [], laidByText := true, laidKinds := [.data], laidTests := true, laidLooks := .later }
def AdmNilCardSaid : Prop := Claim7.holds Tryz.pinned (.plain (OpenSpec.ofChange admNilSpec)) admNilCard

/-- THE SECOND FORM's CARD OF 'angeluslaw51.AdmNil'. -/
def admNilUptoCard : Claim7 := { stood := { row := admNilUptoRow, standIns := [], harness := (true, "204880c0a2b6af0b336117e75dad19eaefc5f61a625539fbaf1cbb61f39dc79b"), looks := false }, kinds := [], alts := [], laidByText := true, laidKinds := [.data], laidTests := true, laidLooks := .later }
def AdmNilUptoCardSaid : Prop := Claim7.holds Tryz.pinned (.plain (OpenSpec.upto admNilSpec)) admNilUptoCard
end Rows
end Go.Proofs.YtlepoillmgpdjaaGreatDoor
