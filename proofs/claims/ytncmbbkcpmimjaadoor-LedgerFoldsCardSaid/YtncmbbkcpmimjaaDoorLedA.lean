/- A ledger as a value; how many nodes; what all nodes sent; the reference's sixteen digits. -/
import Derived.Test.YtncmbbkcpmimjaaDoorHex
import Derived.Deep.Cut
namespace Go.Proofs.YtncmbbkcpmimjaaDoor
open Go.RowKit Law
set_option linter.unusedVariables false

structure Ld where
  count : Int
  sum : Nat
  of : List Nat
def Ld.cells (l : Ld) : List Value := .int .i64 l.count :: .int .u64 (l.sum : Int) :: l.of.map (fun (c : Nat) => .int .u32 (c : Int))
def Ld.val (l : Ld) : Value := .agg l.cells.toArray
structure Ld.Fits (l : Ld) : Prop where
  c0 : -9223372036854775808 ≤ l.count
  c1 : l.count ≤ 9223372036854775807
  s : l.sum < 18446744073709551616
  n : l.of.length = 64
  o : ∀ c ∈ l.of, c < 4294967296
theorem Ld.len {l : Ld} (h : l.Fits) : l.cells.length = 66 := by
  unfold Ld.cells
  simp [h.n]
theorem Ld.one {l : Ld} : l.cells.toArray.all (·.oneCell') = true := by
  rw [Array.all_eq_true_iff_forall_mem]
  intro v hv
  simp [Ld.cells] at hv
  rcases hv with rfl | rfl | ⟨c, _, rfl⟩ <;> rfl
/-- A ledger in a block. -/
def LdAt (w : World) (b : Nat) (l : Ld) : Prop := w.rangeAt b 0 l.cells
theorem LdAt.count {w : World} {b : Nat} {l : Ld} (h : LdAt w b l) : w.cell? ⟨b, 0, none⟩ = some (.int .i64 l.count) := h 0 _ rfl
theorem LdAt.sum {w : World} {b : Nat} {l : Ld} (h : LdAt w b l) : w.cell? ⟨b, 1, none⟩ = some (.int .u64 (l.sum : Int)) := h 1 _ rfl
theorem LdAt.of {w : World} {b : Nat} {l : Ld} (h : LdAt w b l) {k : Nat} (hk : k < l.of.length) : w.cell? ⟨b, 2 + k, none⟩ = some (.int .u32 (l.of[k] : Int)) := by
  have := h (k + 2) (.int .u32 (l.of[k] : Int)) (by simp [Ld.cells, hk])
  rwa [Nat.zero_add, Nat.add_comm] at this
theorem LdAt.lt {w : World} {b : Nat} {l : Ld} (h : LdAt w b l) : b < w.heap.size := World.block_lt_of_cell? _ _ h.count
theorem LdAt.below {w w' : World} {b : Nat} {l : Ld} (h : LdAt w b l) (hb : Below w.heap.size w w') : LdAt w' b l := fun j v hj => by
  rw [hb.cell (p := ⟨b, 0 + j, none⟩) h.lt]
  exact h j v hj
theorem LdAt.new (w : World) (l : Ld) (t : TypeId) : LdAt (w.alloc (.cells l.cells.toArray t)) w.heap.size l := fun j v hj => by
  rw [World.cell?_alloc_at _ _ _ _ rfl]
  simpa using hj
theorem ldInfo : (Tryd.prog.info? 26).map (·.size) = some 66 := by kernel_rfl
theorem LdAt.load {w : World} {b : Nat} {l : Ld} (h : LdAt w b l) (hf : l.Fits) : (Instr.loadAt 26 (.pointer (some ⟨b, 0, none⟩))).run Tryd.prog w = .ok l.val w :=
  run_loadAt_mid w b 0 26 l.cells _ h Tryd.underlying26 rfl (by rw [Ld.len hf]; exact ldInfo)

/-! ### how many nodes -/
def clampN (n : Int) : Nat := if n < 0 then 0 else if 64 < n then 64 else n.toNat
theorem clampN_le (n : Int) : clampN n ≤ 64 := by unfold clampN; split; omega; split <;> omega
theorem ledNodes (n : Int) (w : World) : Calls Tryd.prog 32 #[.int .i64 n] w fun e w' => e = .returned (.int .i64 (clampN n : Int)) ∧ w = w' := by
  have E : Hid (min (max n 0) 64 = (clampN n : Int)) := by unfold Hid clampN; split; omega; split <;> omega
  go_enter Tryd.func32, Tryd.ntmps32
  go_wp2
  go_ret
  exact ⟨ret_int (by rw [← E.out] <;> omega), rfl⟩
theorem refNodes (n : Int) (w : World) : Calls Tryd.prog 36 #[.int .i64 n] w fun e w' => e = .returned (.int .i64 (clampN n : Int)) ∧ w = w' := by
  have E : Hid ((clampN n : Int) = if n < 0 then 0 else if 64 < n then 64 else n) := by unfold Hid clampN; split; rfl; split <;> omega
  go_enter Tryd.func36, Tryd.ntmps36
  by_cases h0 : n < 0
  · have E2 : Hid ((clampN n : Int) = 0) := by unfold Hid clampN; rw [if_pos h0]; rfl
    go_wp2
    go_ret
    exact ⟨ret_int (by rw [E2.out]), rfl⟩
  · by_cases h1 : 64 < n
    · have E2 : Hid ((clampN n : Int) = 64) := by unfold Hid clampN; rw [if_neg h0, if_pos h1]; rfl
      go_wp2
      go_ret
      exact ⟨ret_int (by rw [E2.out]), rfl⟩
    · have E2 : Hid ((clampN n : Int) = n) := by unfold Hid clampN; rw [if_neg h0, if_neg h1]; omega
      go_wp2
      go_ret
      exact ⟨ret_int (by rw [E2.out]), rfl⟩

/-! ### sixteen digits -/
def SliceHex (d : Nat) : Prop := ∀ W : World, (Instr.slice 9 (.string ⟨#[48, 49, 50, 51, 52, 53, 54, 55, 56, 57, 97, 98, 99, 100, 101, 102]⟩) (some (.int .u64 (d : Int))) (some (.int .u64 ((d : Int) + 1))) none).run Tryd.prog W = .ok (.string ⟨#[hxd d]⟩) W
theorem slh0 : SliceHex 0 := fun W => by kernel_rfl
theorem slh1 : SliceHex 1 := fun W => by kernel_rfl
theorem slh2 : SliceHex 2 := fun W => by kernel_rfl
theorem slh3 : SliceHex 3 := fun W => by kernel_rfl
theorem slh4 : SliceHex 4 := fun W => by kernel_rfl
theorem slh5 : SliceHex 5 := fun W => by kernel_rfl
theorem slh6 : SliceHex 6 := fun W => by kernel_rfl
theorem slh7 : SliceHex 7 := fun W => by kernel_rfl
theorem slh8 : SliceHex 8 := fun W => by kernel_rfl
theorem slh9 : SliceHex 9 := fun W => by kernel_rfl
theorem slh10 : SliceHex 10 := fun W => by kernel_rfl
theorem slh11 : SliceHex 11 := fun W => by kernel_rfl
theorem slh12 : SliceHex 12 := fun W => by kernel_rfl
theorem slh13 : SliceHex 13 := fun W => by kernel_rfl
theorem slh14 : SliceHex 14 := fun W => by kernel_rfl
theorem slh15 : SliceHex 15 := fun W => by kernel_rfl
theorem slice_hex (d : Nat) (hd : d < 16) : SliceHex d := by
  have h : d = 0 ∨ d = 1 ∨ d = 2 ∨ d = 3 ∨ d = 4 ∨ d = 5 ∨ d = 6 ∨ d = 7 ∨ d = 8 ∨ d = 9 ∨ d = 10 ∨ d = 11 ∨ d = 12 ∨ d = 13 ∨ d = 14 ∨ d = 15 := by omega
  rcases h with rfl | rfl | rfl | rfl | rfl | rfl | rfl | rfl | rfl | rfl | rfl | rfl | rfl | rfl | rfl | rfl
  · exact slh0
  · exact slh1
  · exact slh2
  · exact slh3
  · exact slh4
  · exact slh5
  · exact slh6
  · exact slh7
  · exact slh8
  · exact slh9
  · exact slh10
  · exact slh11
  · exact slh12
  · exact slh13
  · exact slh14
  · exact slh15
set_option maxHeartbeats 1600000 in
theorem refHex (x : Nat) (hx : x < 18446744073709551616) (w : World) : Calls Tryd.prog 35 #[.int .u64 (x : Int)] w fun e w' => e = .returned (.string ⟨(hexN 16 x).toArray⟩) ∧ w = w' := by
  go_enter Tryd.func35, Tryd.ntmps35
  go_wp2
  go_loop [0, 3, 4] (fun u t i => ∃ (k : Nat) (T : List UInt8), k ≤ 16 ∧ i = .int .i64 k ∧ t = .string ⟨T.toArray⟩ ∧ T = hexN k x ∧ T.length = k ∧ u = .int .u64 ((x / 16 ^ k : Nat) : Int)) (fun _ _ i => 16 - (intOf i).toNat)
  case atStart => exact ⟨0, [], Nat.zero_le _, rfl, rfl, rfl, rfl, by simp⟩
  case round =>
    obtain ⟨k, T, hk, rfl, rfl, hT, hTl, rfl⟩ := hrel
    obtain ⟨y, hy⟩ : ∃ y, x / 16 ^ k = y := ⟨_, rfl⟩
    rw [hy]
    have HT := Lib.hid (And.intro hT hy)
    clear hT
    by_cases hlt : k < 16
    · have hyx : y < 18446744073709551616 := by rw [← hy]; exact Nat.lt_of_le_of_lt (Nat.div_le_self _ _) hx
      obtain ⟨d, hd⟩ : ∃ d, y % 16 = d := ⟨_, rfl⟩
      have hdy : (y : Int) % 16 = (d : Int) := by omega
      have hs := slice_hex d (by omega)
      unfold SliceHex at hs
      have HD := Lib.hid hd
      have hd16 : d < 16 := by omega
      clear hy hd
      go_wp2
      go_round
      case rel =>
        have hxd2 : hxd d = hxd y := by rw [← HD.out]; unfold hxd; rw [Nat.mod_mod]
        refine ⟨k + 1, hxd d :: T, by omega, by go_num, congrArg Value.string (str_app [hxd d] T), ?_, by simp [hTl], ?_⟩
        · rw [hexN_head, HT.out.2, HT.out.1, hxd2]
        · rw [Nat.pow_succ, ← Nat.div_div_eq_div_mul, HT.out.2]; rfl
      case measure => simp [intOf]; omega
    · obtain rfl : k = 16 := by omega
      clear hy
      go_wp2
      go_ret
      exact ⟨ret_str (by rw [HT.out.1]), rfl⟩
end Go.Proofs.YtncmbbkcpmimjaaDoor
