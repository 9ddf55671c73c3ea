/-
  DERIVED. GIVEN WITH THE SEED: THE CARDS: each row of YtbgbehlmpheaeaaGreatDoorRows.lean that lists a variable, with what it lists TIED to the program's text (the seventh form; the later family's looks); each row that meets fmt, with fmt's text TOLD by the authors' own Lean function (tested against real Go, not proved from fmt's source: count such statements apart). THE CARD IS WHAT COUNTS. Prove the row's statement (the work); the ties are given (YtbgbehlmpheaeaaGreatDoorTie.lean); close each card by the builder's one call (the guide's Derived/Test/ToyasCard.lean, 'card_holds'). Laid BY PROGRAM, IN A SANDBOX (cutbox-door.mjs). By AI agents, Wed Nov 11 2026. No macro, syntax, notation, axiom, sorry.
-/
import Derived.Test.YtbgbehlmpheaeaaGreatDoorRows
import GoSem.ClaimSeven
namespace Go.Proofs.YtbgbehlmpheaeaaGreatDoor
namespace Rows

/-- THE TIED CARD OF 'angeluslaw51.AdmStatic'. -/
def admStaticCard : Claim7 := { stood := { row := admStaticRow, standIns := [], harness := (true, "bfdc826fa7d4a9299c7abfbbbf36f65318e486c434a37949e1eccd3004ee2df7"), looks := false }, kinds := [], alts := [], laidByText := true, laidKinds := [.data], laidTests := true, laidLooks := .later }
def AdmStaticCardSaid : Prop := Claim7.holds Tryz.pinned (.plain (OpenSpec.ofChange admStaticSpec)) admStaticCard

/-- THE SECOND FORM's CARD OF 'angeluslaw51.AdmStatic'. -/
def admStaticUptoCard : Claim7 := { stood := { row := admStaticUptoRow, standIns := [], harness := (true, "bfdc826fa7d4a9299c7abfbbbf36f65318e486c434a37949e1eccd3004ee2df7"), looks := false }, kinds := [], alts := [], laidByText := true, laidKinds := [.data], laidTests := true, laidLooks := .later }
def AdmStaticUptoCardSaid : Prop := Claim7.holds Tryz.pinned (.plain (OpenSpec.upto admStaticSpec)) admStaticUptoCard
end Rows
end Go.Proofs.YtbgbehlmpheaeaaGreatDoor
