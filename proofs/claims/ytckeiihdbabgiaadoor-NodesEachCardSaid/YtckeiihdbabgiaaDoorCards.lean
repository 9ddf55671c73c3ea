/-
  DERIVED. GIVEN WITH THE SEED: THE CARDS: each row of YtckeiihdbabgiaaDoorRows.lean that lists a variable, with what it lists TIED to the program's text (the seventh form; the later family's looks); each row that meets fmt, with fmt's text TOLD by the authors' own Lean function (tested against real Go, not proved from fmt's source: count such statements apart). THE CARD IS WHAT COUNTS. Prove the row's statement (the work); the ties are given (YtckeiihdbabgiaaDoorTie.lean); close each card by the builder's one call (the guide's Derived/Test/ToyasCard.lean, 'card_holds'). Laid BY PROGRAM, IN A SANDBOX (cutbox-door.mjs). By AI agents, Wed Nov 11 2026. No macro, syntax, notation, axiom, sorry.
-/
import Derived.Test.YtckeiihdbabgiaaDoorRows
import GoSem.ClaimSeven
namespace Go.Proofs.YtckeiihdbabgiaaDoor
namespace Rows

/-- THE TIED CARD OF 'angeluslaw03.NodesFirst'. -/
def nodesFirstCard : Claim7 := { stood := { row := nodesFirstRow, standIns := [], harness := (true, "a124ae377c7f42a887f0dcdd91950ea49173fa3d66cd8541bdc4f433726c5264"), looks := false }, kinds := [], alts := [], laidByText := true, laidKinds := [.data, .data, .data], laidTests := true, laidLooks := .later }
def NodesFirstCardSaid : Prop := Claim7.holds Tryd.pinned (.plain (OpenSpec.ofChange nodesFirstSpec)) nodesFirstCard

/-- THE TIED CARD OF 'angeluslaw03.NodesEach'. -/
def nodesEachCard : Claim7 := { stood := { row := nodesEachRow, standIns := [], harness := (true, "a124ae377c7f42a887f0dcdd91950ea49173fa3d66cd8541bdc4f433726c5264"), looks := false }, kinds := [], alts := [], laidByText := true, laidKinds := [.data, .data, .data], laidTests := true, laidLooks := .later }
def NodesEachCardSaid : Prop := Claim7.holds Tryd.pinned (.plain (OpenSpec.ofChange nodesEachSpec)) nodesEachCard

/-- THE TIED CARD OF 'angeluslaw03.NodesLeast'. -/
def nodesLeastCard : Claim7 := { stood := { row := nodesLeastRow, standIns := [], harness := (true, "a124ae377c7f42a887f0dcdd91950ea49173fa3d66cd8541bdc4f433726c5264"), looks := false }, kinds := [], alts := [], laidByText := true, laidKinds := [.data, .data, .data], laidTests := true, laidLooks := .later }
def NodesLeastCardSaid : Prop := Claim7.holds Tryd.pinned (.plain (OpenSpec.ofChange nodesLeastSpec)) nodesLeastCard

/-- THE TIED CARD OF 'angeluslaw03.NodesOf'. -/
def nodesOfCard : Claim7 := { stood := { row := nodesOfRow, standIns := [], harness := (true, "a124ae377c7f42a887f0dcdd91950ea49173fa3d66cd8541bdc4f433726c5264"), looks := false }, kinds := [], alts := [], laidByText := true, laidKinds := [.data, .data, .data], laidTests := true, laidLooks := .later }
def NodesOfCardSaid : Prop := Claim7.holds Tryd.pinned (.plain (OpenSpec.ofChange nodesOfSpec)) nodesOfCard

/-- THE TIED CARD OF 'angeluslaw03.NodesChange'. -/
def nodesChangeCard : Claim7 := { stood := { row := nodesChangeRow, standIns := [], harness := (true, "a124ae377c7f42a887f0dcdd91950ea49173fa3d66cd8541bdc4f433726c5264"), looks := false }, kinds := [], alts := [], laidByText := true, laidKinds := [.data, .data, .data], laidTests := true, laidLooks := .later }
def NodesChangeCardSaid : Prop := Claim7.holds Tryd.pinned (.plain (OpenSpec.ofChange nodesChangeSpec)) nodesChangeCard

/-- THE TIED CARD OF 'angeluslaw03.NodesTell'. -/
def nodesTellCard : Claim7 := { stood := { row := nodesTellRow, standIns := [], harness := (true, "a124ae377c7f42a887f0dcdd91950ea49173fa3d66cd8541bdc4f433726c5264"), looks := false }, kinds := [], alts := [], laidByText := true, laidKinds := [.data, .data, .data], laidTests := true, laidLooks := .later }
def NodesTellCardSaid : Prop := Claim7.holds Tryd.pinned (.plain (OpenSpec.ofChange nodesTellSpec)) nodesTellCard

/-- THE TIED CARD OF 'angeluslaw03.NodesBack'. -/
def nodesBackCard : Claim7 := { stood := { row := nodesBackRow, standIns := [], harness := (true, "a124ae377c7f42a887f0dcdd91950ea49173fa3d66cd8541bdc4f433726c5264"), looks := false }, kinds := [], alts := [], laidByText := true, laidKinds := [.data, .data, .data], laidTests := true, laidLooks := .later }
def NodesBackCardSaid : Prop := Claim7.holds Tryd.pinned (.plain (OpenSpec.ofChange nodesBackSpec)) nodesBackCard

/-- THE SECOND FORM's CARD OF 'angeluslaw03.NodesFirst'. -/
def nodesFirstUptoCard : Claim7 := { stood := { row := nodesFirstUptoRow, standIns := [], harness := (true, "a124ae377c7f42a887f0dcdd91950ea49173fa3d66cd8541bdc4f433726c5264"), looks := false }, kinds := [], alts := [], laidByText := true, laidKinds := [.data, .data, .data], laidTests := true, laidLooks := .later }
def NodesFirstUptoCardSaid : Prop := Claim7.holds Tryd.pinned (.plain (OpenSpec.upto nodesFirstSpec)) nodesFirstUptoCard

/-- THE SECOND FORM's CARD OF 'angeluslaw03.NodesEach'. -/
def nodesEachUptoCard : Claim7 := { stood := { row := nodesEachUptoRow, standIns := [], harness := (true, "a124ae377c7f42a887f0dcdd91950ea49173fa3d66cd8541bdc4f433726c5264"), looks := false }, kinds := [], alts := [], laidByText := true, laidKinds := [.data, .data, .data], laidTests := true, laidLooks := .later }
def NodesEachUptoCardSaid : Prop := Claim7.holds Tryd.pinned (.plain (OpenSpec.upto nodesEachSpec)) nodesEachUptoCard

/-- THE SECOND FORM's CARD OF 'angeluslaw03.NodesLeast'. -/
def nodesLeastUptoCard : Claim7 := { stood := { row := nodesLeastUptoRow, standIns := [], harness := (true, "a124ae377c7f42a887f0dcdd91950ea49173fa3d66cd8541bdc4f433726c5264"), looks := false }, kinds := [], alts := [], laidByText := true, laidKinds := [.data, .data, .data], laidTests := true, laidLooks := .later }
def NodesLeastUptoCardSaid : Prop := Claim7.holds Tryd.pinned (.plain (OpenSpec.upto nodesLeastSpec)) nodesLeastUptoCard

/-- THE SECOND FORM's CARD OF 'angeluslaw03.NodesOf'. -/
def nodesOfUptoCard : Claim7 := { stood := { row := nodesOfUptoRow, standIns := [], harness := (true, "a124ae377c7f42a887f0dcdd91950ea49173fa3d66cd8541bdc4f433726c5264"), looks := false }, kinds := [], alts := [], laidByText := true, laidKinds := [.data, .data, .data], laidTests := true, laidLooks := .later }
def NodesOfUptoCardSaid : Prop := Claim7.holds Tryd.pinned (.plain (OpenSpec.upto nodesOfSpec)) nodesOfUptoCard

/-- THE SECOND FORM's CARD OF 'angeluslaw03.NodesChange'. -/
def nodesChangeUptoCard : Claim7 := { stood := { row := nodesChangeUptoRow, standIns := [], harness := (true, "a124ae377c7f42a887f0dcdd91950ea49173fa3d66cd8541bdc4f433726c5264"), looks := false }, kinds := [], alts := [], laidByText := true, laidKinds := [.data, .data, .data], laidTests := true, laidLooks := .later }
def NodesChangeUptoCardSaid : Prop := Claim7.holds Tryd.pinned (.plain (OpenSpec.upto nodesChangeSpec)) nodesChangeUptoCard

/-- THE SECOND FORM's CARD OF 'angeluslaw03.NodesTell'. -/
def nodesTellUptoCard : Claim7 := { stood := { row := nodesTellUptoRow, standIns := [], harness := (true, "a124ae377c7f42a887f0dcdd91950ea49173fa3d66cd8541bdc4f433726c5264"), looks := false }, kinds := [], alts := [], laidByText := true, laidKinds := [.data, .data, .data], laidTests := true, laidLooks := .later }
def NodesTellUptoCardSaid : Prop := Claim7.holds Tryd.pinned (.plain (OpenSpec.upto nodesTellSpec)) nodesTellUptoCard

/-- THE SECOND FORM's CARD OF 'angeluslaw03.NodesBack'. -/
def nodesBackUptoCard : Claim7 := { stood := { row := nodesBackUptoRow, standIns := [], harness := (true, "a124ae377c7f42a887f0dcdd91950ea49173fa3d66cd8541bdc4f433726c5264"), looks := false }, kinds := [], alts := [], laidByText := true, laidKinds := [.data, .data, .data], laidTests := true, laidLooks := .later }
def NodesBackUptoCardSaid : Prop := Claim7.holds Tryd.pinned (.plain (OpenSpec.upto nodesBackSpec)) nodesBackUptoCard
end Rows
end Go.Proofs.YtckeiihdbabgiaaDoor
