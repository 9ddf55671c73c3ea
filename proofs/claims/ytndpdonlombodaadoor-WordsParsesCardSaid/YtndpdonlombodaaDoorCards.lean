/-
  DERIVED. GIVEN WITH THE SEED: THE CARDS: each row of YtndpdonlombodaaDoorRows.lean that lists a variable, with what it lists TIED to the program's text (the seventh form; the later family's looks); each row that meets fmt, with fmt's text TOLD by the authors' own Lean function (tested against real Go, not proved from fmt's source: count such statements apart). THE CARD IS WHAT COUNTS. Prove the row's statement (the work); the ties are given (YtndpdonlombodaaDoorTie.lean); close each card by the builder's one call (the guide's Derived/Test/ToyasCard.lean, 'card_holds'). Laid BY PROGRAM, IN A SANDBOX (cutbox-door.mjs). By AI agents, Wed Nov 11 2026. No macro, syntax, notation, axiom, sorry.
-/
import Derived.Test.YtndpdonlombodaaDoorRows
import GoSem.ClaimSeven
namespace Go.Proofs.YtndpdonlombodaaDoor
namespace Rows

/-- THE TIED CARD OF 'angeluslaw47.WordsPrints'. -/
def wordsPrintsCard : Claim7 := { stood := { row := wordsPrintsRow, standIns := [], harness := (true, "c116ad3917dd97cd8eb1e29d71e3c761ba778eb01a568242bdeabc3583c4ab5c"), looks := true }, kinds := [], alts := [], laidByText := true, laidKinds := [.data, .data, .data, .data, .sentinel, .sentinel, .pinned], laidTests := true, laidLooks := .later }
def WordsPrintsCardSaid : Prop := Claim7.holds Tryd.pinned (.plain (OpenSpec.ofChange wordsPrintsSpec)) wordsPrintsCard

/-- THE TIED CARD OF 'angeluslaw47.WordsParses'. -/
def wordsParsesCard : Claim7 := { stood := { row := wordsParsesRow, standIns := [], harness := (true, "c116ad3917dd97cd8eb1e29d71e3c761ba778eb01a568242bdeabc3583c4ab5c"), looks := true }, kinds := [], alts := [], laidByText := true, laidKinds := [.data, .data, .data, .data, .sentinel, .sentinel, .pinned], laidTests := true, laidLooks := .later }
def WordsParsesCardSaid : Prop := Claim7.holds Tryd.pinned (.plain (OpenSpec.ofChange wordsParsesSpec)) wordsParsesCard

/-- THE TIED CARD OF 'angeluslaw47.WordsBack'. -/
def wordsBackCard : Claim7 := { stood := { row := wordsBackRow, standIns := [], harness := (true, "c116ad3917dd97cd8eb1e29d71e3c761ba778eb01a568242bdeabc3583c4ab5c"), looks := true }, kinds := [], alts := [], laidByText := true, laidKinds := [.data, .data, .data, .data, .sentinel, .sentinel, .pinned], laidTests := true, laidLooks := .later }
def WordsBackCardSaid : Prop := Claim7.holds Tryd.pinned (.plain (OpenSpec.ofChange wordsBackSpec)) wordsBackCard

/-- THE TIED CARD OF 'angeluslaw47.WordsOnce'. -/
def wordsOnceCard : Claim7 := { stood := { row := wordsOnceRow, standIns := [], harness := (true, "c116ad3917dd97cd8eb1e29d71e3c761ba778eb01a568242bdeabc3583c4ab5c"), looks := true }, kinds := [], alts := [], laidByText := true, laidKinds := [.data, .data, .data, .data, .sentinel, .sentinel, .pinned], laidTests := true, laidLooks := .later }
def WordsOnceCardSaid : Prop := Claim7.holds Tryd.pinned (.plain (OpenSpec.ofChange wordsOnceSpec)) wordsOnceCard

/-- THE SECOND FORM's CARD OF 'angeluslaw47.WordsPrints'. -/
def wordsPrintsUptoCard : Claim7 := { stood := { row := wordsPrintsUptoRow, standIns := [], harness := (true, "c116ad3917dd97cd8eb1e29d71e3c761ba778eb01a568242bdeabc3583c4ab5c"), looks := true }, kinds := [], alts := [], laidByText := true, laidKinds := [.data, .data, .data, .data, .sentinel, .sentinel, .pinned], laidTests := true, laidLooks := .later }
def WordsPrintsUptoCardSaid : Prop := Claim7.holds Tryd.pinned (.plain (OpenSpec.upto wordsPrintsSpec)) wordsPrintsUptoCard

/-- THE SECOND FORM's CARD OF 'angeluslaw47.WordsParses'. -/
def wordsParsesUptoCard : Claim7 := { stood := { row := wordsParsesUptoRow, standIns := [], harness := (true, "c116ad3917dd97cd8eb1e29d71e3c761ba778eb01a568242bdeabc3583c4ab5c"), looks := true }, kinds := [], alts := [], laidByText := true, laidKinds := [.data, .data, .data, .data, .sentinel, .sentinel, .pinned], laidTests := true, laidLooks := .later }
def WordsParsesUptoCardSaid : Prop := Claim7.holds Tryd.pinned (.plain (OpenSpec.upto wordsParsesSpec)) wordsParsesUptoCard

/-- THE SECOND FORM's CARD OF 'angeluslaw47.WordsBack'. -/
def wordsBackUptoCard : Claim7 := { stood := { row := wordsBackUptoRow, standIns := [], harness := (true, "c116ad3917dd97cd8eb1e29d71e3c761ba778eb01a568242bdeabc3583c4ab5c"), looks := true }, kinds := [], alts := [], laidByText := true, laidKinds := [.data, .data, .data, .data, .sentinel, .sentinel, .pinned], laidTests := true, laidLooks := .later }
def WordsBackUptoCardSaid : Prop := Claim7.holds Tryd.pinned (.plain (OpenSpec.upto wordsBackSpec)) wordsBackUptoCard

/-- THE SECOND FORM's CARD OF 'angeluslaw47.WordsOnce'. -/
def wordsOnceUptoCard : Claim7 := { stood := { row := wordsOnceUptoRow, standIns := [], harness := (true, "c116ad3917dd97cd8eb1e29d71e3c761ba778eb01a568242bdeabc3583c4ab5c"), looks := true }, kinds := [], alts := [], laidByText := true, laidKinds := [.data, .data, .data, .data, .sentinel, .sentinel, .pinned], laidTests := true, laidLooks := .later }
def WordsOnceUptoCardSaid : Prop := Claim7.holds Tryd.pinned (.plain (OpenSpec.upto wordsOnceSpec)) wordsOnceUptoCard
end Rows
end Go.Proofs.YtndpdonlombodaaDoor
