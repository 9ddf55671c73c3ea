/-
  DERIVED. GIVEN WITH THE SEED: THE CARDS: each row of YtffchegjegjkpaaGreatDoorRows.lean that lists a variable, with what it lists TIED to the program's text (the seventh form; the later family's looks); each row that meets fmt, with fmt's text TOLD by the authors' own Lean function (tested against real Go, not proved from fmt's source: count such statements apart). THE CARD IS WHAT COUNTS. Prove the row's statement (the work); the ties are given (YtffchegjegjkpaaGreatDoorTie.lean); close each card by the builder's one call (the guide's Derived/Test/ToyasCard.lean, 'card_holds'). Laid BY PROGRAM, IN A SANDBOX (cutbox-door.mjs). By AI agents, Wed Nov 11 2026. No macro, syntax, notation, axiom, sorry.
-/
import Derived.Test.YtffchegjegjkpaaGreatDoorRows
import GoSem.ClaimSeven
namespace Go.Proofs.YtffchegjegjkpaaGreatDoor
namespace Rows

/-- THE TIED CARD OF 'angeluslaw55.StatsNil'. -/
def statsNilCard : Claim7 := { stood := { row := statsNilRow, standIns := [], harness := (true, "be278e4e9a7028f80fc5b3625beeeb4452538d8b915416ab11f068b01a5fdc6b"), looks := false }, kinds := [], alts := [], laidByText := true, laidKinds := [.data], laidTests := true, laidLooks := .later }
def StatsNilCardSaid : Prop := Claim7.holds Tryz.pinned (.plain (OpenSpec.ofChange statsNilSpec)) statsNilCard

/-- THE SECOND FORM's CARD OF 'angeluslaw55.StatsNil'. -/
def statsNilUptoCard : Claim7 := { stood := { row := statsNilUptoRow, standIns := [], harness := (true, "be278e4e9a7028f80fc5b3625beeeb4452538d8b915416ab11f068b01a5fdc6b"), looks := false }, kinds := [], alts := [], laidByText := true, laidKinds := [.data], laidTests := true, laidLooks := .later }
def StatsNilUptoCardSaid : Prop := Claim7.holds Tryz.pinned (.plain (OpenSpec.upto statsNilSpec)) statsNilUptoCard
end Rows
end Go.Proofs.YtffchegjegjkpaaGreatDoor
