/-
  DERIVED. GIVEN WITH THE SEED: THE CARDS: each row of YtncmbbkcpmimjaaDoorRows.lean that lists a variable, with what it lists TIED to the program's text (the seventh form; the later family's looks); each row that meets fmt, with fmt's text TOLD by the authors' own Lean function (tested against real Go, not proved from fmt's source: count such statements apart). THE CARD IS WHAT COUNTS. Prove the row's statement (the work); the ties are given (YtncmbbkcpmimjaaDoorTie.lean); close each card by the builder's one call (the guide's Derived/Test/ToyasCard.lean, 'card_holds'). Laid BY PROGRAM, IN A SANDBOX (cutbox-door.mjs). By AI agents, Wed Nov 11 2026. No macro, syntax, notation, axiom, sorry.
-/
import Derived.Test.YtncmbbkcpmimjaaDoorRows
import GoSem.ClaimSeven
namespace Go.Proofs.YtncmbbkcpmimjaaDoor
namespace Rows

/-- THE TIED CARD OF 'angeluslaw37.LedgerAdds'. -/
def ledgerAddsCard : Claim7 := { stood := { row := ledgerAddsRow, standIns := [], harness := (true, "e88c5ec9f9587c042b633e01a04e025d5862b6a4720c36efff1397dc8ea18828"), looks := false }, kinds := [], alts := [], laidByText := true, laidKinds := [.data, .data, .data], laidTests := true, laidLooks := .later }
def LedgerAddsCardSaid : Prop := Claim7.holds Tryd.pinned (.plain (OpenSpec.ofChange ledgerAddsSpec)) ledgerAddsCard

/-- THE TIED CARD OF 'angeluslaw37.LedgerTexts'. -/
def ledgerTextsCard : Claim7 := { stood := { row := ledgerTextsRow, standIns := [], harness := (true, "e88c5ec9f9587c042b633e01a04e025d5862b6a4720c36efff1397dc8ea18828"), looks := false }, kinds := [], alts := [], laidByText := true, laidKinds := [.data, .data, .data], laidTests := true, laidLooks := .later }
def LedgerTextsCardSaid : Prop := Claim7.holds Tryd.pinned (.plain (OpenSpec.ofChange ledgerTextsSpec)) ledgerTextsCard

/-- THE TIED CARD OF 'angeluslaw37.LedgerPuts'. -/
def ledgerPutsCard : Claim7 := { stood := { row := ledgerPutsRow, standIns := [], harness := (true, "e88c5ec9f9587c042b633e01a04e025d5862b6a4720c36efff1397dc8ea18828"), looks := false }, kinds := [], alts := [], laidByText := true, laidKinds := [.data, .data, .data], laidTests := true, laidLooks := .later }
def LedgerPutsCardSaid : Prop := Claim7.holds Tryd.pinned (.plain (OpenSpec.ofChange ledgerPutsSpec)) ledgerPutsCard

/-- THE TIED CARD OF 'angeluslaw37.LedgerGets'. -/
def ledgerGetsCard : Claim7 := { stood := { row := ledgerGetsRow, standIns := [], harness := (true, "e88c5ec9f9587c042b633e01a04e025d5862b6a4720c36efff1397dc8ea18828"), looks := false }, kinds := [], alts := [], laidByText := true, laidKinds := [.data, .data, .data], laidTests := true, laidLooks := .later }
def LedgerGetsCardSaid : Prop := Claim7.holds Tryd.pinned (.plain (OpenSpec.ofChange ledgerGetsSpec)) ledgerGetsCard

/-- THE TIED CARD OF 'angeluslaw37.LedgerFolds'. -/
def ledgerFoldsCard : Claim7 := { stood := { row := ledgerFoldsRow, standIns := [], harness := (true, "e88c5ec9f9587c042b633e01a04e025d5862b6a4720c36efff1397dc8ea18828"), looks := false }, kinds := [], alts := [], laidByText := true, laidKinds := [.data, .data, .data], laidTests := true, laidLooks := .later }
def LedgerFoldsCardSaid : Prop := Claim7.holds Tryd.pinned (.plain (OpenSpec.ofChange ledgerFoldsSpec)) ledgerFoldsCard

/-- THE SECOND FORM's CARD OF 'angeluslaw37.LedgerAdds'. -/
def ledgerAddsUptoCard : Claim7 := { stood := { row := ledgerAddsUptoRow, standIns := [], harness := (true, "e88c5ec9f9587c042b633e01a04e025d5862b6a4720c36efff1397dc8ea18828"), looks := false }, kinds := [], alts := [], laidByText := true, laidKinds := [.data, .data, .data], laidTests := true, laidLooks := .later }
def LedgerAddsUptoCardSaid : Prop := Claim7.holds Tryd.pinned (.plain (OpenSpec.upto ledgerAddsSpec)) ledgerAddsUptoCard

/-- THE SECOND FORM's CARD OF 'angeluslaw37.LedgerTexts'. -/
def ledgerTextsUptoCard : Claim7 := { stood := { row := ledgerTextsUptoRow, standIns := [], harness := (true, "e88c5ec9f9587c042b633e01a04e025d5862b6a4720c36efff1397dc8ea18828"), looks := false }, kinds := [], alts := [], laidByText := true, laidKinds := [.data, .data, .data], laidTests := true, laidLooks := .later }
def LedgerTextsUptoCardSaid : Prop := Claim7.holds Tryd.pinned (.plain (OpenSpec.upto ledgerTextsSpec)) ledgerTextsUptoCard

/-- THE SECOND FORM's CARD OF 'angeluslaw37.LedgerPuts'. -/
def ledgerPutsUptoCard : Claim7 := { stood := { row := ledgerPutsUptoRow, standIns := [], harness := (true, "e88c5ec9f9587c042b633e01a04e025d5862b6a4720c36efff1397dc8ea18828"), looks := false }, kinds := [], alts := [], laidByText := true, laidKinds := [.data, .data, .data], laidTests := true, laidLooks := .later }
def LedgerPutsUptoCardSaid : Prop := Claim7.holds Tryd.pinned (.plain (OpenSpec.upto ledgerPutsSpec)) ledgerPutsUptoCard

/-- THE SECOND FORM's CARD OF 'angeluslaw37.LedgerGets'. -/
def ledgerGetsUptoCard : Claim7 := { stood := { row := ledgerGetsUptoRow, standIns := [], harness := (true, "e88c5ec9f9587c042b633e01a04e025d5862b6a4720c36efff1397dc8ea18828"), looks := false }, kinds := [], alts := [], laidByText := true, laidKinds := [.data, .data, .data], laidTests := true, laidLooks := .later }
def LedgerGetsUptoCardSaid : Prop := Claim7.holds Tryd.pinned (.plain (OpenSpec.upto ledgerGetsSpec)) ledgerGetsUptoCard

/-- THE SECOND FORM's CARD OF 'angeluslaw37.LedgerFolds'. -/
def ledgerFoldsUptoCard : Claim7 := { stood := { row := ledgerFoldsUptoRow, standIns := [], harness := (true, "e88c5ec9f9587c042b633e01a04e025d5862b6a4720c36efff1397dc8ea18828"), looks := false }, kinds := [], alts := [], laidByText := true, laidKinds := [.data, .data, .data], laidTests := true, laidLooks := .later }
def LedgerFoldsUptoCardSaid : Prop := Claim7.holds Tryd.pinned (.plain (OpenSpec.upto ledgerFoldsSpec)) ledgerFoldsUptoCard
end Rows
end Go.Proofs.YtncmbbkcpmimjaaDoor
