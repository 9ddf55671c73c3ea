/- A ledger that came in. -/
import Derived.Test.YtncmbbkcpmimjaaDoorLedA
namespace Go.Proofs.YtncmbbkcpmimjaaDoor
open Go.RowKit Law
abbrev ldKinds : List FK := .inl .i64 :: .inl .u64 :: List.replicate 64 (.inl .u32)
theorem ld_of_fit {cs : List Value} (h : Fit ldKinds cs) : ∃ l : Ld, l.Fits ∧ cs = l.cells := by
  obtain ⟨c, us, rfl, wc, h⟩ := h.int
  obtain ⟨s, us, rfl, ws, h⟩ := h.int
  obtain ⟨zs, rfl, hl, hz⟩ := h.ints
  have hc : -9223372036854775808 ≤ c ∧ c ≤ 9223372036854775807 := by simpa [Lit.wf, IntKind.min, IntKind.max, IntKind.signed, IntKind.bits] using wc
  have hs : 0 ≤ s ∧ s ≤ 18446744073709551615 := by simpa [Lit.wf, IntKind.min, IntKind.max, IntKind.signed, IntKind.bits] using ws
  have hzz : ∀ z ∈ zs, 0 ≤ z ∧ z ≤ 4294967295 := fun z hm => by simpa [Lit.wf, IntKind.min, IntKind.max, IntKind.signed, IntKind.bits] using hz z hm
  refine ⟨⟨c, s.toNat, zs.map Int.toNat⟩, ⟨hc.1, hc.2, by show s.toNat < _; omega, by simpa using hl, fun n hn => ?_⟩, ?_⟩
  · obtain ⟨z, hm, rfl⟩ := List.mem_map.1 hn
    have := hzz z hm
    omega
  · unfold Ld.cells
    show Value.int .i64 c :: Value.int .u64 s :: _ = Value.int .i64 c :: Value.int .u64 (s.toNat : Int) :: _
    rw [show ((s.toNat : Nat) : Int) = s by omega]
    congr 2
    rw [List.map_map]
    apply List.map_congr_left
    intro z hm
    have := hzz z hm
    show Value.int .u32 z = Value.int .u32 ((z.toNat : Nat) : Int)
    rw [show ((z.toNat : Nat) : Int) = z by omega]
theorem ldFlat : flat Tryd.prog 8 26 = some ldKinds := by kernel_rfl
theorem ldStruct : ∃ fs, Tryd.prog.underlying 26 = some (.struct fs) := ⟨_, Tryd.underlying26⟩
end Go.Proofs.YtncmbbkcpmimjaaDoor
