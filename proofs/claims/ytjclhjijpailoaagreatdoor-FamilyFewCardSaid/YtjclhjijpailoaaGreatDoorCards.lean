/-
  DERIVED. GIVEN WITH THE SEED: THE CARDS: each row of YtjclhjijpailoaaGreatDoorRows.lean that lists a variable, with what it lists TIED to the program's text (the seventh form; the later family's looks); each row that meets fmt, with fmt's text TOLD by the authors' own Lean function (tested against real Go, not proved from fmt's source: count such statements apart). THE CARD IS WHAT COUNTS. Prove the row's statement (the work); the ties are given (YtjclhjijpailoaaGreatDoorTie.lean); close each card by the builder's one call (the guide's Derived/Test/ToyasCard.lean, 'card_holds'). Laid BY PROGRAM, IN A SANDBOX (cutbox-door.mjs). By AI agents, Wed Nov 11 2026. No macro, syntax, notation, axiom, sorry.
-/
import Derived.Test.YtjclhjijpailoaaGreatDoorRows
import GoSem.ClaimSeven
namespace Go.Proofs.YtjclhjijpailoaaGreatDoor
namespace Rows

/-- THE TIED CARD OF 'angeluslaw53.FamilyFew'. -/
def familyFewCard : Claim7 := { stood := { row := familyFewRow, standIns := [], harness := (true, "26b830874131c323b1706c20b9c8eb81d52b5ea0caace856cef8af5aa6fedf32"), looks := false }, kinds := [], alts := [], laidByText := true, laidKinds := [.data], laidTests := true, laidLooks := .later }
def FamilyFewCardSaid : Prop := Claim7.holds Tryz.pinned (.plain (OpenSpec.ofChange familyFewSpec)) familyFewCard

/-- THE TIED CARD OF 'angeluslaw53.FamilyNil'. -/
def familyNilCard : Claim7 := { stood := { row := familyNilRow, standIns := [], harness := (true, "26b830874131c323b1706c20b9c8eb81d52b5ea0caace856cef8af5aa6fedf32"), looks := false }, kinds := [], alts := [], laidByText := true, laidKinds := [.data], laidTests := true, laidLooks := .later }
def FamilyNilCardSaid : Prop := Claim7.holds Tryz.pinned (.plain (OpenSpec.ofChange familyNilSpec)) familyNilCard

/-- THE SECOND FORM's CARD OF 'angeluslaw53.FamilyFew'. -/
def familyFewUptoCard : Claim7 := { stood := { row := familyFewUptoRow, standIns := [], harness := (true, "26b830874131c323b1706c20b9c8eb81d52b5ea0caace856cef8af5aa6fedf32"), looks := false }, kinds := [], alts := [], laidByText := true, laidKinds := [.data], laidTests := true, laidLooks := .later }
def FamilyFewUptoCardSaid : Prop := Claim7.holds Tryz.pinned (.plain (OpenSpec.upto familyFewSpec)) familyFewUptoCard

/-- THE SECOND FORM's CARD OF 'angeluslaw53.FamilyNil'. -/
def familyNilUptoCard : Claim7 := { stood := { row := familyNilUptoRow, standIns := [], harness := (true, "26b830874131c323b1706c20b9c8eb81d52b5ea0caace856cef8af5aa6fedf32"), looks := false }, kinds := [], alts := [], laidByText := true, laidKinds := [.data], laidTests := true, laidLooks := .later }
def FamilyNilUptoCardSaid : Prop := Claim7.holds Tryz.pinned (.plain (OpenSpec.upto familyNilSpec)) familyNilUptoCard
end Rows
end Go.Proofs.YtjclhjijpailoaaGreatDoor
