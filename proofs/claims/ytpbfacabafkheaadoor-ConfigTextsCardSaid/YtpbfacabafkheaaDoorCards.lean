/-
  DERIVED. GIVEN WITH THE SEED: THE CARDS: each row of YtpbfacabafkheaaDoorRows.lean that lists a variable, with what it lists TIED to the program's text (the seventh form; the later family's looks); each row that meets fmt, with fmt's text TOLD by the authors' own Lean function (tested against real Go, not proved from fmt's source: count such statements apart). THE CARD IS WHAT COUNTS. Prove the row's statement (the work); the ties are given (YtpbfacabafkheaaDoorTie.lean); close each card by the builder's one call (the guide's Derived/Test/ToyasCard.lean, 'card_holds'). Laid BY PROGRAM, IN A SANDBOX (cutbox-door.mjs). By AI agents, Wed Nov 11 2026. No macro, syntax, notation, axiom, sorry.
-/
import Derived.Test.YtpbfacabafkheaaDoorRows
import GoSem.ClaimSeven
namespace Go.Proofs.YtpbfacabafkheaaDoor
namespace Rows

/-- THE TIED CARD OF 'angeluslaw48.ConfigFaults'. -/
def configFaultsCard : Claim7 := { stood := { row := configFaultsRow, standIns := [], harness := (true, "4c97d2665ea601442b3888aabe3f17e512fcc2c069f684ed927f05070fa10a25"), looks := false }, kinds := [], alts := [], laidByText := true, laidKinds := [.data], laidTests := true, laidLooks := .later }
def ConfigFaultsCardSaid : Prop := Claim7.holds Tryd.pinned (.plain (OpenSpec.ofChange configFaultsSpec)) configFaultsCard

/-- THE TIED CARD OF 'angeluslaw48.ConfigSmall'. -/
def configSmallCard : Claim7 := { stood := { row := configSmallRow, standIns := [], harness := (true, "4c97d2665ea601442b3888aabe3f17e512fcc2c069f684ed927f05070fa10a25"), looks := false }, kinds := [], alts := [], laidByText := true, laidKinds := [.data], laidTests := true, laidLooks := .later }
def ConfigSmallCardSaid : Prop := Claim7.holds Tryd.pinned (.plain (OpenSpec.ofChange configSmallSpec)) configSmallCard

/-- THE TIED CARD OF 'angeluslaw48.ConfigWhole'. -/
def configWholeCard : Claim7 := { stood := { row := configWholeRow, standIns := [], harness := (true, "4c97d2665ea601442b3888aabe3f17e512fcc2c069f684ed927f05070fa10a25"), looks := false }, kinds := [], alts := [], laidByText := true, laidKinds := [.data], laidTests := true, laidLooks := .later }
def ConfigWholeCardSaid : Prop := Claim7.holds Tryd.pinned (.plain (OpenSpec.ofChange configWholeSpec)) configWholeCard

/-- THE TIED CARD OF 'angeluslaw48.ConfigTexts'. -/
def configTextsCard : Claim7 := { stood := { row := configTextsRow, standIns := [], harness := (true, "4c97d2665ea601442b3888aabe3f17e512fcc2c069f684ed927f05070fa10a25"), looks := false }, kinds := [], alts := [], laidByText := true, laidKinds := [.data, .data, .data], laidTests := true, laidLooks := .later }
def ConfigTextsCardSaid : Prop := Claim7.holds Tryd.pinned (.plain (OpenSpec.ofChange configTextsSpec)) configTextsCard

/-- THE SECOND FORM's CARD OF 'angeluslaw48.ConfigFaults'. -/
def configFaultsUptoCard : Claim7 := { stood := { row := configFaultsUptoRow, standIns := [], harness := (true, "4c97d2665ea601442b3888aabe3f17e512fcc2c069f684ed927f05070fa10a25"), looks := false }, kinds := [], alts := [], laidByText := true, laidKinds := [.data], laidTests := true, laidLooks := .later }
def ConfigFaultsUptoCardSaid : Prop := Claim7.holds Tryd.pinned (.plain (OpenSpec.upto configFaultsSpec)) configFaultsUptoCard

/-- THE SECOND FORM's CARD OF 'angeluslaw48.ConfigSmall'. -/
def configSmallUptoCard : Claim7 := { stood := { row := configSmallUptoRow, standIns := [], harness := (true, "4c97d2665ea601442b3888aabe3f17e512fcc2c069f684ed927f05070fa10a25"), looks := false }, kinds := [], alts := [], laidByText := true, laidKinds := [.data], laidTests := true, laidLooks := .later }
def ConfigSmallUptoCardSaid : Prop := Claim7.holds Tryd.pinned (.plain (OpenSpec.upto configSmallSpec)) configSmallUptoCard

/-- THE SECOND FORM's CARD OF 'angeluslaw48.ConfigWhole'. -/
def configWholeUptoCard : Claim7 := { stood := { row := configWholeUptoRow, standIns := [], harness := (true, "4c97d2665ea601442b3888aabe3f17e512fcc2c069f684ed927f05070fa10a25"), looks := false }, kinds := [], alts := [], laidByText := true, laidKinds := [.data], laidTests := true, laidLooks := .later }
def ConfigWholeUptoCardSaid : Prop := Claim7.holds Tryd.pinned (.plain (OpenSpec.upto configWholeSpec)) configWholeUptoCard

/-- THE SECOND FORM's CARD OF 'angeluslaw48.ConfigTexts'. -/
def configTextsUptoCard : Claim7 := { stood := { row := configTextsUptoRow, standIns := [], harness := (true, "4c97d2665ea601442b3888aabe3f17e512fcc2c069f684ed927f05070fa10a25"), looks := false }, kinds := [], alts := [], laidByText := true, laidKinds := [.data, .data, .data], laidTests := true, laidLooks := .later }
def ConfigTextsUptoCardSaid : Prop := Claim7.holds Tryd.pinned (.plain (OpenSpec.upto configTextsSpec)) configTextsUptoCard
end Rows
end Go.Proofs.YtpbfacabafkheaaDoor
