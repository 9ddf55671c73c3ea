/-
  DERIVED. GIVEN WITH THE SEED: THE CARDS: each row of YtlkajpmfcibagaaDoorRows.lean that lists a variable, with what it lists TIED to the program's text (the seventh form; the later family's looks); each row that meets fmt, with fmt's text TOLD by the authors' own Lean function (tested against real Go, not proved from fmt's source: count such statements apart). THE CARD IS WHAT COUNTS. Prove the row's statement (the work); the ties are given (YtlkajpmfcibagaaDoorTie.lean); close each card by the builder's one call (the guide's Derived/Test/ToyasCard.lean, 'card_holds'). Laid BY PROGRAM, IN A SANDBOX (cutbox-door.mjs). By AI agents, Wed Nov 11 2026. No macro, syntax, notation, axiom, sorry.
-/
import Derived.Test.YtlkajpmfcibagaaDoorRows
import GoSem.ClaimSeven
namespace Go.Proofs.YtlkajpmfcibagaaDoor
namespace Rows

/-- THE TIED CARD OF 'angeluslaw06.KeyOrder'. -/
def keyOrderCard : Claim7 := { stood := { row := keyOrderRow, standIns := [], harness := (true, "099173a8df3606f5d842cd5fa03402d6da5e4542d54747c692fb2acd7d2a1ff8"), looks := false }, kinds := [], alts := [], laidByText := true, laidKinds := [.data, .data, .data], laidTests := true, laidLooks := .later }
def KeyOrderCardSaid : Prop := Claim7.holds Tryd.pinned (.plain (OpenSpec.ofChange keyOrderSpec)) keyOrderCard

/-- THE TIED CARD OF 'angeluslaw06.KeyTexts'. -/
def keyTextsCard : Claim7 := { stood := { row := keyTextsRow, standIns := [], harness := (true, "099173a8df3606f5d842cd5fa03402d6da5e4542d54747c692fb2acd7d2a1ff8"), looks := false }, kinds := [], alts := [], laidByText := true, laidKinds := [.data, .data, .data], laidTests := true, laidLooks := .later }
def KeyTextsCardSaid : Prop := Claim7.holds Tryd.pinned (.plain (OpenSpec.ofChange keyTextsSpec)) keyTextsCard

/-- THE TIED CARD OF 'angeluslaw06.KeyArrays'. -/
def keyArraysCard : Claim7 := { stood := { row := keyArraysRow, standIns := [], harness := (true, "099173a8df3606f5d842cd5fa03402d6da5e4542d54747c692fb2acd7d2a1ff8"), looks := false }, kinds := [], alts := [], laidByText := true, laidKinds := [.data, .data, .data], laidTests := true, laidLooks := .later }
def KeyArraysCardSaid : Prop := Claim7.holds Tryd.pinned (.plain (OpenSpec.ofChange keyArraysSpec)) keyArraysCard

/-- THE TIED CARD OF 'angeluslaw06.KeyTwice'. -/
def keyTwiceCard : Claim7 := { stood := { row := keyTwiceRow, standIns := [], harness := (true, "099173a8df3606f5d842cd5fa03402d6da5e4542d54747c692fb2acd7d2a1ff8"), looks := false }, kinds := [], alts := [], laidByText := true, laidKinds := [.data, .data, .data], laidTests := true, laidLooks := .later }
def KeyTwiceCardSaid : Prop := Claim7.holds Tryd.pinned (.plain (OpenSpec.ofChange keyTwiceSpec)) keyTwiceCard

/-- THE TIED CARD OF 'angeluslaw06.KeySorts'. -/
def keySortsCard : Claim7 := { stood := { row := keySortsRow, standIns := [], harness := (true, "099173a8df3606f5d842cd5fa03402d6da5e4542d54747c692fb2acd7d2a1ff8"), looks := false }, kinds := [], alts := [], laidByText := true, laidKinds := [.data, .data, .data], laidTests := true, laidLooks := .later }
def KeySortsCardSaid : Prop := Claim7.holds Tryd.pinned (.plain (OpenSpec.ofChange keySortsSpec)) keySortsCard

/-- THE TIED CARD OF 'angeluslaw06.KeyWhole'. -/
def keyWholeCard : Claim7 := { stood := { row := keyWholeRow, standIns := [], harness := (true, "099173a8df3606f5d842cd5fa03402d6da5e4542d54747c692fb2acd7d2a1ff8"), looks := false }, kinds := [], alts := [], laidByText := true, laidKinds := [.data, .data, .data], laidTests := true, laidLooks := .later }
def KeyWholeCardSaid : Prop := Claim7.holds Tryd.pinned (.plain (OpenSpec.ofChange keyWholeSpec)) keyWholeCard

/-- THE SECOND FORM's CARD OF 'angeluslaw06.KeyOrder'. -/
def keyOrderUptoCard : Claim7 := { stood := { row := keyOrderUptoRow, standIns := [], harness := (true, "099173a8df3606f5d842cd5fa03402d6da5e4542d54747c692fb2acd7d2a1ff8"), looks := false }, kinds := [], alts := [], laidByText := true, laidKinds := [.data, .data, .data], laidTests := true, laidLooks := .later }
def KeyOrderUptoCardSaid : Prop := Claim7.holds Tryd.pinned (.plain (OpenSpec.upto keyOrderSpec)) keyOrderUptoCard

/-- THE SECOND FORM's CARD OF 'angeluslaw06.KeyTexts'. -/
def keyTextsUptoCard : Claim7 := { stood := { row := keyTextsUptoRow, standIns := [], harness := (true, "099173a8df3606f5d842cd5fa03402d6da5e4542d54747c692fb2acd7d2a1ff8"), looks := false }, kinds := [], alts := [], laidByText := true, laidKinds := [.data, .data, .data], laidTests := true, laidLooks := .later }
def KeyTextsUptoCardSaid : Prop := Claim7.holds Tryd.pinned (.plain (OpenSpec.upto keyTextsSpec)) keyTextsUptoCard

/-- THE SECOND FORM's CARD OF 'angeluslaw06.KeyArrays'. -/
def keyArraysUptoCard : Claim7 := { stood := { row := keyArraysUptoRow, standIns := [], harness := (true, "099173a8df3606f5d842cd5fa03402d6da5e4542d54747c692fb2acd7d2a1ff8"), looks := false }, kinds := [], alts := [], laidByText := true, laidKinds := [.data, .data, .data], laidTests := true, laidLooks := .later }
def KeyArraysUptoCardSaid : Prop := Claim7.holds Tryd.pinned (.plain (OpenSpec.upto keyArraysSpec)) keyArraysUptoCard

/-- THE SECOND FORM's CARD OF 'angeluslaw06.KeyTwice'. -/
def keyTwiceUptoCard : Claim7 := { stood := { row := keyTwiceUptoRow, standIns := [], harness := (true, "099173a8df3606f5d842cd5fa03402d6da5e4542d54747c692fb2acd7d2a1ff8"), looks := false }, kinds := [], alts := [], laidByText := true, laidKinds := [.data, .data, .data], laidTests := true, laidLooks := .later }
def KeyTwiceUptoCardSaid : Prop := Claim7.holds Tryd.pinned (.plain (OpenSpec.upto keyTwiceSpec)) keyTwiceUptoCard

/-- THE SECOND FORM's CARD OF 'angeluslaw06.KeySorts'. -/
def keySortsUptoCard : Claim7 := { stood := { row := keySortsUptoRow, standIns := [], harness := (true, "099173a8df3606f5d842cd5fa03402d6da5e4542d54747c692fb2acd7d2a1ff8"), looks := false }, kinds := [], alts := [], laidByText := true, laidKinds := [.data, .data, .data], laidTests := true, laidLooks := .later }
def KeySortsUptoCardSaid : Prop := Claim7.holds Tryd.pinned (.plain (OpenSpec.upto keySortsSpec)) keySortsUptoCard

/-- THE SECOND FORM's CARD OF 'angeluslaw06.KeyWhole'. -/
def keyWholeUptoCard : Claim7 := { stood := { row := keyWholeUptoRow, standIns := [], harness := (true, "099173a8df3606f5d842cd5fa03402d6da5e4542d54747c692fb2acd7d2a1ff8"), looks := false }, kinds := [], alts := [], laidByText := true, laidKinds := [.data, .data, .data], laidTests := true, laidLooks := .later }
def KeyWholeUptoCardSaid : Prop := Claim7.holds Tryd.pinned (.plain (OpenSpec.upto keyWholeSpec)) keyWholeUptoCard
end Rows
end Go.Proofs.YtlkajpmfcibagaaDoor
