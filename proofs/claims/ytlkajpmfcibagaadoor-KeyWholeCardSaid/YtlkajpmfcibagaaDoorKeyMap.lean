/- A map by keys, as its block holds it. -/
import Derived.Test.YtlkajpmfcibagaaDoorKeyN
import Derived.DeepKeys4
import Derived.WideKeyEntry
namespace Go.Proofs.YtlkajpmfcibagaaDoor
open Go.RowKit Law
set_option linter.unusedVariables false

theorem mapRow : (24 : TypeId) < Tryd.prog.types.size := of_decide_eq_true (by kernel_rfl)
theorem mapLaid : laidOutB Tryd.prog = true := by kernel_rfl
theorem mapWide : (match Tryd.prog.underlying 24 with | some (.array _ _) | some (.struct _) => true | _ => false) = true := by kernel_rfl
theorem mapLaw : WideMaps.KeyLaw Tryd.prog 24 := deep_law_laid mapLaid (m := 3) (by omega) mapRow (by kernel_rfl) mapWide
theorem keyCells : Tryd.prog.cellsOf 24 = 3 := by kernel_rfl
theorem keyKey : Tryd.prog.keyType 24 = true := by kernel_rfl
theorem key_reads (k : K) (hk : k.Fits) : ∃ l, keyOf Tryd.prog 24 (.agg #[.int .i64 k.t, .int .i64 k.f, .int .u32 k.s]) = some l := by
  obtain ⟨⟨t0, t1⟩, ⟨f0, f1⟩, s0, s1⟩ := hk
  have w1 : (Lit.int .i64 k.t).wf = true := by simp [Lit.wf, IntKind.min, IntKind.max, IntKind.signed, IntKind.bits]; omega
  have w2 : (Lit.int .i64 k.f).wf = true := by simp [Lit.wf, IntKind.min, IntKind.max, IntKind.signed, IntKind.bits]; omega
  have w3 : (Lit.int .u32 k.s).wf = true := by simp [Lit.wf, IntKind.min, IntKind.max, IntKind.signed, IntKind.bits]; omega
  have c3 : Tryd.prog.cellsOf 2 = 1 := by kernel_rfl
  have c4 : Tryd.prog.cellsOf 3 = 1 := by kernel_rfl
  have c5 : Tryd.prog.cellsOf 22 = 1 := by kernel_rfl
  have hf : (Value.agg #[.int .i64 k.t, .int .i64 k.f, .int .u32 k.s]).formed Tryd.prog 24 = true := by simp [Value.formed, Tryd.underlying24, keyCells]
  have hl : ∀ n, ∃ ls, Tryd.prog.keyLits (n + 2) 24 [.int .i64 k.t, .int .i64 k.f, .int .u32 k.s] = some ls := by
    intro n
    simp [Program.keyLits, Tryd.underlying24, Tryd.underlying2, Tryd.underlying3, Tryd.underlying22, keyCells, c3, c4, c5, w1, w2, w3]
  obtain ⟨ls, hls⟩ := hl (Tryd.prog.types.size - 1)
  have hp : 0 < Tryd.prog.types.size := Nat.lt_of_le_of_lt (Nat.zero_le _) mapRow
  rw [show Tryd.prog.types.size - 1 + 2 = Tryd.prog.types.size + 1 by omega] at hls
  refine ⟨.string (keyBytes ls), ?_⟩
  unfold keyOf
  rw [Tryd.underlying24]
  dsimp only
  rw [keyKey, hf]
  show (if (true && true) = true then (Tryd.prog.keyLits (Tryd.prog.types.size + 1) 24 [.int .i64 k.t, .int .i64 k.f, .int .u32 k.s]).map (fun ls => Lit.string (keyBytes ls)) else none) = _
  rw [hls]
  rfl
end Go.Proofs.YtlkajpmfcibagaaDoor
