/- buf.Writer where all goes well: New, fine, room, Byte. -/
import Derived.Test.YtncmbbkcpmimjaaDoorBufC
namespace Go.Proofs.YtncmbbkcpmimjaaDoor
open Go.RowKit Law
set_option linter.unusedVariables false

/-- A writer in a block, with nothing wrong: what it has is the slice v. -/
structure WrAt (w : World) (bw : Nat) (v : Value) : Prop where
  c0 : w.cell? ⟨bw, 0, none⟩ = some (.int .i64 0)
  c1 : w.cell? ⟨bw, 1, none⟩ = some v
  c2 : w.cell? ⟨bw, 2, none⟩ = some (.int .i64 400)
  f1 : w.frozen? ⟨bw, 1, none⟩ = false
theorem WrAt.lt {w : World} {bw : Nat} {v : Value} (h : WrAt w bw v) : bw < w.heap.size := World.block_lt_of_cell? _ _ h.c0
theorem WrAt.kept {w w' : World} {bw : Nat} {v : Value} (h : WrAt w bw v) (hb : Below w.heap.size w w') : WrAt w' bw v :=
  ⟨(hb.cell (p := ⟨bw, 0, none⟩) h.lt).trans h.c0, (hb.cell (p := ⟨bw, 1, none⟩) h.lt).trans h.c1, (hb.cell (p := ⟨bw, 2, none⟩) h.lt).trans h.c2, (hb.frozen (p := ⟨bw, 1, none⟩) h.lt).trans h.f1⟩
theorem bufNew (w : World) : Calls Tryd.prog 13 #[.int .i64 400] w fun e w' => e = .returned (.pointer (some ⟨w.heap.size, 0, none⟩)) ∧ w' = w.alloc (.cells #[.int .i64 0, .slice none 0 0, .int .i64 400] 74) := by
  go_enter Tryd.func13, Tryd.ntmps13
  go_wp2
  go_ret
  exact ⟨rfl, rfl⟩
theorem WrAt.new (w : World) : WrAt (w.alloc (.cells #[.int .i64 0, .slice none 0 0, .int .i64 400] 74)) w.heap.size (.slice none 0 0) := ⟨by simp, by simp, by simp, by simp⟩
theorem wrFine (bw : Nat) (w : World) (h : w.cell? ⟨bw, 0, none⟩ = some (.int .i64 0)) : Calls Tryd.prog 39 #[.pointer (some ⟨bw, 0, none⟩)] w fun e w' => e = .returned (.bool true) ∧ w' = w := by
  go_enter Tryd.func39, Tryd.ntmps39
  go_wp2
  go_ret
  exact ⟨rfl, rfl⟩
set_option maxHeartbeats 1600000 in
theorem wrRoom (bw n len c : Nat) (A : Option Addr) (w : World) (h : WrAt w bw (.slice A len c)) (hn : len + n ≤ 400) :
    Calls Tryd.prog 72 #[.pointer (some ⟨bw, 0, none⟩), .int .i64 (n : Int)] w fun e w' => e = .returned (.bool true) ∧ ∃ q, w' = w.drewN q := by
  have C := Lib.hid (wrFine bw w h.c0)
  obtain ⟨h0, h1, h2, -⟩ := h
  go_enter Tryd.func72, Tryd.ntmps72
  go_wp2_with fail
  refine C.out.mono ?_
  rintro e w1 ⟨rfl, rfl⟩
  go_wp2_with fail
  go_quiet (fail)
  go_wp2
  go_ret
  exact ⟨rfl, _, rfl⟩
end Go.Proofs.YtncmbbkcpmimjaaDoor
