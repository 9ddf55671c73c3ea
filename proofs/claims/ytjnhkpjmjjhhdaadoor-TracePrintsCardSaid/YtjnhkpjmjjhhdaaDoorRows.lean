/-
  NARROWER THAN 'FOR EVERY INPUT', by the rows' own cells (each row's printed sentence says how): TraceNames: laid · TraceOf: laid · TraceParts: laid · TracePrints: laid.
  DERIVED. THE GIVEN ROWS OF THIS SEAT. 4 by the template 'for every input the law returns true; each argument reads behind the call as it read before'; 0 by the template 'total and deterministic' (their statements: YtjnhkpjmjjhhdaaDoorTotals.lean).
  GIVEN WITH THE SEED: the statements are not yours to turn. If you find one false, say at which input.
  Laid BY PROGRAM, IN A SANDBOX (cutbox-rows.mjs): the forced cells as the released guide's own fill.sh prints them over the translation 144de53b70ba8b6d… (all of the seat's roots in one cut). By AI agents, Wed Nov 11 2026. No macro, syntax, notation, axiom, sorry.
-/
import Derived.Test.YtjnhkpjmjjhhdaaDoorChecked
import GoSem.Claim
import GoSem.ClaimJoined
import GoSem.ClaimMapViews
import Derived.JoinedTies
import Derived.KernelRfl
namespace Go.Proofs.YtjnhkpjmjjhhdaaDoor
/- THE CELL 'sum', in the pinned program and in every row, IS THE sha256 OF THE DUMP (.gsa) THAT YtjnhkpjmjjhhdaaDoorProg.lean LOADS. Nothing in Lean hashes anything: it is a label: what it is worth is what the hold of that sum in a sandbox is worth. -/
noncomputable def Tryd.pinned : Pinned := { name := "ytjnhkpjmjjhhdaadoor", sum := "144de53b70ba8b6d8f5ae4959e7520bba5ff6220bc0e72564620ef304219bd32", checked := Tryd.checked }
namespace Rows
def none {H : Type} : Left H := { results := [], args := [] }

/- WHAT THE LISTED PACKAGE-LEVEL VARIABLES READ AS WHEN THE CALL BEGINS. Each datum BY PROGRAM (the guide's laid-datum.mjs) off the statement by which the dump's own 'gosem.cut.vars' lays the variable. In a bare row this is a premise. The card (YtjnhkpjmjjhhdaaDoorCards.lean) ties it to the program's text. -/
def laid_math_bits_deBruijn32tab {H : Type} : DataW H := .agg [.lit (.int .u8 0), .lit (.int .u8 1), .lit (.int .u8 28), .lit (.int .u8 2), .lit (.int .u8 29), .lit (.int .u8 14), .lit (.int .u8 24), .lit (.int .u8 3), .lit (.int .u8 30), .lit (.int .u8 22), .lit (.int .u8 20), .lit (.int .u8 15), .lit (.int .u8 25), .lit (.int .u8 17), .lit (.int .u8 4), .lit (.int .u8 8), .lit (.int .u8 31), .lit (.int .u8 27), .lit (.int .u8 13), .lit (.int .u8 23), .lit (.int .u8 21), .lit (.int .u8 19), .lit (.int .u8 16), .lit (.int .u8 7), .lit (.int .u8 26), .lit (.int .u8 12), .lit (.int .u8 18), .lit (.int .u8 6), .lit (.int .u8 11), .lit (.int .u8 5), .lit (.int .u8 10), .lit (.int .u8 9)]
def laid_math_bits_deBruijn64tab {H : Type} : DataW H := .agg [.lit (.int .u8 0), .lit (.int .u8 1), .lit (.int .u8 56), .lit (.int .u8 2), .lit (.int .u8 57), .lit (.int .u8 49), .lit (.int .u8 28), .lit (.int .u8 3), .lit (.int .u8 61), .lit (.int .u8 58), .lit (.int .u8 42), .lit (.int .u8 50), .lit (.int .u8 38), .lit (.int .u8 29), .lit (.int .u8 17), .lit (.int .u8 4), .lit (.int .u8 62), .lit (.int .u8 47), .lit (.int .u8 59), .lit (.int .u8 36), .lit (.int .u8 45), .lit (.int .u8 43), .lit (.int .u8 51), .lit (.int .u8 22), .lit (.int .u8 53), .lit (.int .u8 39), .lit (.int .u8 33), .lit (.int .u8 30), .lit (.int .u8 24), .lit (.int .u8 18), .lit (.int .u8 12), .lit (.int .u8 5), .lit (.int .u8 63), .lit (.int .u8 55), .lit (.int .u8 48), .lit (.int .u8 27), .lit (.int .u8 60), .lit (.int .u8 41), .lit (.int .u8 37), .lit (.int .u8 16), .lit (.int .u8 46), .lit (.int .u8 35), .lit (.int .u8 44), .lit (.int .u8 21), .lit (.int .u8 52), .lit (.int .u8 32), .lit (.int .u8 23), .lit (.int .u8 11), .lit (.int .u8 54), .lit (.int .u8 26), .lit (.int .u8 40), .lit (.int .u8 15), .lit (.int .u8 34), .lit (.int .u8 20), .lit (.int .u8 31), .lit (.int .u8 10), .lit (.int .u8 25), .lit (.int .u8 14), .lit (.int .u8 19), .lit (.int .u8 9), .lit (.int .u8 13), .lit (.int .u8 8), .lit (.int .u8 7), .lit (.int .u8 6)]
def laid_internal_strconv_uint64pow10 {H : Type} : DataW H := .agg [.lit (.int .u64 1), .lit (.int .u64 10), .lit (.int .u64 100), .lit (.int .u64 1000), .lit (.int .u64 10000), .lit (.int .u64 100000), .lit (.int .u64 1000000), .lit (.int .u64 10000000), .lit (.int .u64 100000000), .lit (.int .u64 1000000000), .lit (.int .u64 10000000000), .lit (.int .u64 100000000000), .lit (.int .u64 1000000000000), .lit (.int .u64 10000000000000), .lit (.int .u64 100000000000000), .lit (.int .u64 1000000000000000), .lit (.int .u64 10000000000000000), .lit (.int .u64 100000000000000000), .lit (.int .u64 1000000000000000000), .lit (.int .u64 10000000000000000000)]
def laid_angelus_trace_names {H : Type} : DataW H := .agg [.lit (.string []), .lit (.string [100, 101, 108, 105, 118, 101, 114]), .lit (.string [118, 105, 101, 119]), .lit (.string [115, 101, 110, 100]), .lit (.string [99, 114, 97, 115, 104]), .lit (.string [114, 101, 115, 116, 97, 114, 116]), .lit (.string [115, 121, 110, 99]), .lit (.string [97, 100, 109, 105, 116]), .lit (.string [114, 101, 109, 111, 118, 101]), .lit (.string [114, 101, 102, 117, 115, 101])]
def laid_angelus_trace_errs {H : Type} : DataW H := .agg [.lit (.string [111, 107]), .lit (.string [97, 114, 103]), .lit (.string [114, 97, 110, 103, 101]), .lit (.string [115, 104, 111, 114, 116]), .lit (.string [108, 111, 110, 103]), .lit (.string [102, 111, 114, 109]), .lit (.string [115, 117, 109]), .lit (.string [107, 105, 110, 100]), .lit (.string [110, 111, 100, 101]), .lit (.string [104, 111, 112, 115]), .lit (.string [101, 97, 114, 108, 121]), .lit (.string [108, 97, 116, 101]), .lit (.string [100, 117, 112]), .lit (.string [102, 117, 108, 108]), .lit (.string [112, 104, 97, 115, 101]), .lit (.string [109, 101, 109, 98, 101, 114]), .lit (.string [100, 111, 119, 110]), .lit (.string [99, 111, 110, 102, 105, 103]), .lit (.string [111, 118, 101, 114]), .lit (.string [119, 111, 114, 100])]

/-- 'angeluslaw50.TraceNames': WHATEVER THE INPUT: true; the input reads as it did. -/
def traceNamesSpec : ChangeSpec := { name := "traceNames", fn := fun _ => fun
  | [d1, d2] => { results := [.lit (.bool true)], args := [d1, d2] }
  | _ => none }
def traceNamesRow : OpenClaim := { program := "ytjnhkpjmjjhhdaadoor", sum := "144de53b70ba8b6d8f5ae4959e7520bba5ff6220bc0e72564620ef304219bd32", func := "angelus/angeluslaw50.TraceNames", spec := "traceNames", named := ["angelus/trace.names", "angelus/trace.errs", "internal/strconv.uint64pow10", "math/bits.deBruijn32tab", "math/bits.deBruijn64tab"], apart := false, laid := [("math/bits.deBruijn32tab", laid_math_bits_deBruijn32tab), ("math/bits.deBruijn64tab", laid_math_bits_deBruijn64tab), ("internal/strconv.uint64pow10", laid_internal_strconv_uint64pow10), ("angelus/trace.names", laid_angelus_trace_names), ("angelus/trace.errs", laid_angelus_trace_errs)] }
def TraceNamesSaid : Prop := traceNamesRow.holds Tryd.pinned (OpenSpec.ofChange traceNamesSpec)

/-- ITS FALSE NEIGHBOUR: 'it returns false'. Refute it at one input. -/
def traceNamesWrong : ChangeSpec := { name := "traceNames", fn := fun _ => fun
  | [d1, d2] => { results := [.lit (.bool false)], args := [d1, d2] }
  | _ => none }
def TraceNamesWrongFalsely : Prop := traceNamesRow.holds Tryd.pinned (OpenSpec.ofChange traceNamesWrong)

/-- 'angeluslaw50.TraceOf': WHATEVER THE INPUT: true; the input reads as it did. -/
def traceOfSpec : ChangeSpec := { name := "traceOf", fn := fun _ => fun
  | [d1, d2, d3] => { results := [.lit (.bool true)], args := [d1, d2, d3] }
  | _ => none }
def traceOfRow : OpenClaim := { program := "ytjnhkpjmjjhhdaadoor", sum := "144de53b70ba8b6d8f5ae4959e7520bba5ff6220bc0e72564620ef304219bd32", func := "angelus/angeluslaw50.TraceOf", spec := "traceOf", named := ["internal/strconv.uint64pow10", "math/bits.deBruijn32tab", "math/bits.deBruijn64tab", "angelus/trace.names", "angelus/trace.errs"], apart := false, laid := [("math/bits.deBruijn32tab", laid_math_bits_deBruijn32tab), ("math/bits.deBruijn64tab", laid_math_bits_deBruijn64tab), ("internal/strconv.uint64pow10", laid_internal_strconv_uint64pow10), ("angelus/trace.names", laid_angelus_trace_names), ("angelus/trace.errs", laid_angelus_trace_errs)] }
def TraceOfSaid : Prop := traceOfRow.holds Tryd.pinned (OpenSpec.ofChange traceOfSpec)

/-- ITS FALSE NEIGHBOUR: 'it returns false'. Refute it at one input. -/
def traceOfWrong : ChangeSpec := { name := "traceOf", fn := fun _ => fun
  | [d1, d2, d3] => { results := [.lit (.bool false)], args := [d1, d2, d3] }
  | _ => none }
def TraceOfWrongFalsely : Prop := traceOfRow.holds Tryd.pinned (OpenSpec.ofChange traceOfWrong)

/-- 'angeluslaw50.TraceParts': WHATEVER THE INPUT: true; the input reads as it did. -/
def tracePartsSpec : ChangeSpec := { name := "traceParts", fn := fun _ => fun
  | [d1, d2] => { results := [.lit (.bool true)], args := [d1, d2] }
  | _ => none }
def tracePartsRow : OpenClaim := { program := "ytjnhkpjmjjhhdaadoor", sum := "144de53b70ba8b6d8f5ae4959e7520bba5ff6220bc0e72564620ef304219bd32", func := "angelus/angeluslaw50.TraceParts", spec := "traceParts", inPlace := ["internal/abi.NoEscape"], named := ["internal/strconv.uint64pow10", "math/bits.deBruijn32tab", "math/bits.deBruijn64tab", "angelus/trace.names", "angelus/trace.errs"], apart := false, laid := [("math/bits.deBruijn32tab", laid_math_bits_deBruijn32tab), ("math/bits.deBruijn64tab", laid_math_bits_deBruijn64tab), ("internal/strconv.uint64pow10", laid_internal_strconv_uint64pow10), ("angelus/trace.names", laid_angelus_trace_names), ("angelus/trace.errs", laid_angelus_trace_errs)] }
def TracePartsSaid : Prop := tracePartsRow.holds Tryd.pinned (OpenSpec.ofChange tracePartsSpec)

/-- ITS FALSE NEIGHBOUR: 'it returns false'. Refute it at one input. -/
def tracePartsWrong : ChangeSpec := { name := "traceParts", fn := fun _ => fun
  | [d1, d2] => { results := [.lit (.bool false)], args := [d1, d2] }
  | _ => none }
def TracePartsWrongFalsely : Prop := tracePartsRow.holds Tryd.pinned (OpenSpec.ofChange tracePartsWrong)

/-- 'angeluslaw50.TracePrints': WHATEVER THE INPUT: true; the input reads as it did. -/
def tracePrintsSpec : ChangeSpec := { name := "tracePrints", fn := fun _ => fun
  | [d] => { results := [.lit (.bool true)], args := [d] }
  | _ => none }
def tracePrintsRow : OpenClaim := { program := "ytjnhkpjmjjhhdaadoor", sum := "144de53b70ba8b6d8f5ae4959e7520bba5ff6220bc0e72564620ef304219bd32", func := "angelus/angeluslaw50.TracePrints", spec := "tracePrints", inPlace := ["internal/abi.NoEscape"], recurses := true, named := ["internal/strconv.uint64pow10", "math/bits.deBruijn32tab", "math/bits.deBruijn64tab", "angelus/trace.names", "angelus/trace.errs"], apart := false, laid := [("math/bits.deBruijn32tab", laid_math_bits_deBruijn32tab), ("math/bits.deBruijn64tab", laid_math_bits_deBruijn64tab), ("internal/strconv.uint64pow10", laid_internal_strconv_uint64pow10), ("angelus/trace.names", laid_angelus_trace_names), ("angelus/trace.errs", laid_angelus_trace_errs)] }
def TracePrintsSaid : Prop := tracePrintsRow.holds Tryd.pinned (OpenSpec.ofChange tracePrintsSpec)

/-- ITS FALSE NEIGHBOUR: 'it returns false'. Refute it at one input. -/
def tracePrintsWrong : ChangeSpec := { name := "tracePrints", fn := fun _ => fun
  | [d] => { results := [.lit (.bool false)], args := [d] }
  | _ => none }
def TracePrintsWrongFalsely : Prop := tracePrintsRow.holds Tryd.pinned (OpenSpec.ofChange tracePrintsWrong)

/- THE SECOND FORM. 'bulk': how many values and letters a reading holds, each counted each time it is reached (what is shared counts as often as it is met; a slice's spare places count too). A statement '..UptoSaid' is the law's where the arguments, and the package variables that the reading takes, are together of bulk at most 1048576: NARROWER than '..Said'. Prove '..Said' where nothing that the law and all that it calls make is longer than what came in: it says more and counts as full. Else prove '..UptoSaid'. A law counts once. -/
mutual
def uptoBulk {H : Type} : DataW H → Nat
  | .lit (.string bytes) => bytes.length + 1
  | .lit _ => 1
  | .nil => 1
  | .ptr d => uptoBulk d + 1
  | .slice elems spare => uptoBulkAll elems + uptoBulkAll spare + 1
  | .agg parts => uptoBulkAll parts + 1
  | .iface _ d => uptoBulk d + 1
  | .map entries => uptoBulkEntries entries + 1
  | .held _ => 1
def uptoBulkAll {H : Type} : List (DataW H) → Nat
  | [] => 0
  | d :: r => uptoBulk d + uptoBulkAll r
def uptoBulkEntries {H : Type} : List (Lit × DataW H) → Nat
  | [] => 0
  | x :: r => uptoBulkEntry x + uptoBulkEntries r
def uptoBulkEntry {H : Type} : Lit × DataW H → Nat
  | (.string bytes, d) => bytes.length + uptoBulk d + 1
  | (_, d) => uptoBulk d + 1
 end
def uptoSmall : (H : Type) → List (DataW H) → Bool := fun _ ds => decide (uptoBulkAll ds ≤ 1048576)
def OpenSpec.upto (s : _root_.Go.ChangeSpec) : _root_.Go.OpenSpec := { _root_.Go.OpenSpec.ofChange s with cond := some uptoSmall }

/-- 'angeluslaw50.TraceNames', WHERE WHAT IT READS IS OF BULK AT MOST 1048576: true; the input reads as it did. -/
def traceNamesUptoRow : OpenClaim := { program := "ytjnhkpjmjjhhdaadoor", sum := "144de53b70ba8b6d8f5ae4959e7520bba5ff6220bc0e72564620ef304219bd32", func := "angelus/angeluslaw50.TraceNames", spec := "traceNames", named := ["angelus/trace.names", "angelus/trace.errs", "internal/strconv.uint64pow10", "math/bits.deBruijn32tab", "math/bits.deBruijn64tab"], apart := false, laid := [("math/bits.deBruijn32tab", laid_math_bits_deBruijn32tab), ("math/bits.deBruijn64tab", laid_math_bits_deBruijn64tab), ("internal/strconv.uint64pow10", laid_internal_strconv_uint64pow10), ("angelus/trace.names", laid_angelus_trace_names), ("angelus/trace.errs", laid_angelus_trace_errs)], narrowed := true }
def TraceNamesUptoSaid : Prop := traceNamesUptoRow.holds Tryd.pinned (OpenSpec.upto traceNamesSpec)

/-- 'angeluslaw50.TraceOf', WHERE WHAT IT READS IS OF BULK AT MOST 1048576: true; the input reads as it did. -/
def traceOfUptoRow : OpenClaim := { program := "ytjnhkpjmjjhhdaadoor", sum := "144de53b70ba8b6d8f5ae4959e7520bba5ff6220bc0e72564620ef304219bd32", func := "angelus/angeluslaw50.TraceOf", spec := "traceOf", named := ["internal/strconv.uint64pow10", "math/bits.deBruijn32tab", "math/bits.deBruijn64tab", "angelus/trace.names", "angelus/trace.errs"], apart := false, laid := [("math/bits.deBruijn32tab", laid_math_bits_deBruijn32tab), ("math/bits.deBruijn64tab", laid_math_bits_deBruijn64tab), ("internal/strconv.uint64pow10", laid_internal_strconv_uint64pow10), ("angelus/trace.names", laid_angelus_trace_names), ("angelus/trace.errs", laid_angelus_trace_errs)], narrowed := true }
def TraceOfUptoSaid : Prop := traceOfUptoRow.holds Tryd.pinned (OpenSpec.upto traceOfSpec)

/-- 'angeluslaw50.TraceParts', WHERE WHAT IT READS IS OF BULK AT MOST 1048576: true; the input reads as it did. -/
def tracePartsUptoRow : OpenClaim := { program := "ytjnhkpjmjjhhdaadoor", sum := "144de53b70ba8b6d8f5ae4959e7520bba5ff6220bc0e72564620ef304219bd32", func := "angelus/angeluslaw50.TraceParts", spec := "traceParts", inPlace := ["internal/abi.NoEscape"], named := ["internal/strconv.uint64pow10", "math/bits.deBruijn32tab", "math/bits.deBruijn64tab", "angelus/trace.names", "angelus/trace.errs"], apart := false, laid := [("math/bits.deBruijn32tab", laid_math_bits_deBruijn32tab), ("math/bits.deBruijn64tab", laid_math_bits_deBruijn64tab), ("internal/strconv.uint64pow10", laid_internal_strconv_uint64pow10), ("angelus/trace.names", laid_angelus_trace_names), ("angelus/trace.errs", laid_angelus_trace_errs)], narrowed := true }
def TracePartsUptoSaid : Prop := tracePartsUptoRow.holds Tryd.pinned (OpenSpec.upto tracePartsSpec)

/-- 'angeluslaw50.TracePrints', WHERE WHAT IT READS IS OF BULK AT MOST 1048576: true; the input reads as it did. -/
def tracePrintsUptoRow : OpenClaim := { program := "ytjnhkpjmjjhhdaadoor", sum := "144de53b70ba8b6d8f5ae4959e7520bba5ff6220bc0e72564620ef304219bd32", func := "angelus/angeluslaw50.TracePrints", spec := "tracePrints", inPlace := ["internal/abi.NoEscape"], recurses := true, named := ["internal/strconv.uint64pow10", "math/bits.deBruijn32tab", "math/bits.deBruijn64tab", "angelus/trace.names", "angelus/trace.errs"], apart := false, laid := [("math/bits.deBruijn32tab", laid_math_bits_deBruijn32tab), ("math/bits.deBruijn64tab", laid_math_bits_deBruijn64tab), ("internal/strconv.uint64pow10", laid_internal_strconv_uint64pow10), ("angelus/trace.names", laid_angelus_trace_names), ("angelus/trace.errs", laid_angelus_trace_errs)], narrowed := true }
def TracePrintsUptoSaid : Prop := tracePrintsUptoRow.holds Tryd.pinned (OpenSpec.upto tracePrintsSpec)

end Rows
end Go.Proofs.YtjnhkpjmjjhhdaaDoor
