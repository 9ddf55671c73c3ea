/- What all nodes sent, by both; a number's bytes, the lowest first: the reference's Fixed. -/
import Derived.Test.YtncmbbkcpmimjaaDoorLedA
import Derived.Laws.AppendOwn
import Derived.Lib.SmallJoins
namespace Go.Proofs.YtncmbbkcpmimjaaDoor
open Go.RowKit Law
set_option linter.unusedVariables false

/-! ### the total -/
def totK (l : Ld) (k : Nat) : Nat := (l.of.take k).sum
theorem totK_succ {l : Ld} {k : Nat} (hk : k < l.of.length) : totK l (k + 1) = totK l k + l.of[k] := by
  unfold totK
  rw [List.take_succ_eq_append_getElem hk, List.sum_append]
  simp
theorem totK_le {l : Ld} (hf : l.Fits) : ∀ k, k ≤ 64 → totK l k ≤ k * 4294967296
  | 0, _ => by simp [totK]
  | k + 1, hk => by
    have ih := totK_le hf k (by omega)
    have hk' : k < l.of.length := by rw [hf.n]; omega
    have := hf.o _ (List.getElem_mem hk')
    rw [totK_succ hk']
    omega
set_option maxHeartbeats 1600000 in
theorem refTotal (l : Ld) (hf : l.Fits) (w : World) : Calls Tryd.prog 18 #[l.val] w fun e w' => e = .returned (.int .i64 (totK l 64 : Int)) ∧ Below w.heap.size w w' := by
  have hA := LdAt.new w l 26
  unfold Ld.val
  go_enter Tryd.func18, Tryd.ntmps18
  go_wp2
  go_loopw [3, 4] (fun t i wr => ∃ k : Nat, k ≤ 64 ∧ i = .int .i64 k ∧ t = .int .i64 (totK l k : Int) ∧ wr = w.alloc (.cells l.cells.toArray 26)) (fun _ i _ => 64 - (intOf i).toNat)
  case atStart => exact ⟨0, Nat.zero_le _, rfl, rfl, rfl⟩
  case round =>
    obtain ⟨k, hk, rfl, rfl, rfl⟩ := hrel
    have hle := totK_le hf k hk
    by_cases hlt : k < 64
    · have hlt' : k < l.of.length := by rw [hf.n]; exact hlt
      have hc := hA.of hlt'
      have hcf := hf.o _ (List.getElem_mem hlt')
      have HS := Lib.hid (totK_succ hlt')
      obtain ⟨c, hce⟩ : ∃ c, l.of[k] = c := ⟨_, rfl⟩
      rw [hce] at hc hcf HS
      obtain ⟨T, hT⟩ : ∃ T, totK l k = T := ⟨_, rfl⟩
      rw [hT] at hle HS ⊢
      clear hT hce
      go_wp2
      go_roundw
      case rel => exact ⟨k + 1, by omega, by go_num, by rw [HS.out] <;> rfl, by first | rfl | trivial⟩
      case measure => simp [intOf]; omega
    · obtain rfl : k = 64 := by omega
      go_wp2
      go_ret
      exact ⟨rfl, (Below.refl _ _).alloc (Nat.le_refl _) _⟩
set_option maxHeartbeats 1600000 in
set_option maxRecDepth 100000 in
theorem ledTotal (l : Ld) (hf : l.Fits) (w : World) : Calls Tryd.prog 17 #[l.val] w fun e w' => e = .returned (.int .i64 (totK l 64 : Int)) ∧ Below w.heap.size w w' := by
  have hA := LdAt.new w l 26
  have hrng : (w.alloc (.cells l.cells.toArray 26)).rangeAt w.heap.size 2 (l.of.map (fun (c : Nat) => Value.int .u32 (c : Int))) := fun j v hj => by
    have := hA (j + 2) v (by simpa [Ld.cells] using hj)
    rwa [Nat.zero_add, Nat.add_comm] at this
  have hi64 : (Tryd.prog.info? 24).map (·.size) = some (l.of.map (fun (c : Nat) => Value.int .u32 (c : Int))).length := by rw [List.length_map, hf.n]; kernel_rfl
  have hix : ∀ (k c : Nat), k < 64 → l.of[k]? = some c → ∀ W, (Instr.index 24 (.agg (l.of.map (fun (c : Nat) => Value.int .u32 (c : Int))).toArray) (.int .i64 (k : Int))).run Tryd.prog W = .ok (.int .u32 (c : Int)) W := fun k c hk hc W => by
    have h1 : (0 : Int) ≤ k ∧ (k : Int) < 64 := by omega
    simp [Instr.index, asIntOf, run_underlying Tryd.underlying24, part, Tryd.isAgg23, Tryd.sizeOf23, go_sem, hc, h1, hk]
  obtain ⟨X, hX⟩ : ∃ X, (l.of.map (fun (c : Nat) => Value.int .u32 (c : Int))) = X := ⟨_, rfl⟩
  rw [hX] at hrng hi64
  simp only [hX] at hix
  clear hX
  unfold Ld.val
  go_enter Tryd.func17, Tryd.ntmps17
  go_wp2_with (refine wpList_load_mid rfl 24 _ rfl w.heap.size 2 rfl X _ hrng Tryd.underlying24 rfl hi64 ?_)
  go_loopw [3, 8] (fun t i wr => ∃ k : Nat, k ≤ 64 ∧ i = .int .i64 k ∧ t = .int .i64 (totK l k : Int) ∧ wr = w.alloc (.cells l.cells.toArray 26)) (fun _ i _ => 64 - (intOf i).toNat)
  case atStart => exact ⟨0, Nat.zero_le _, rfl, rfl, rfl⟩
  case round =>
    obtain ⟨k, hk, rfl, rfl, rfl⟩ := hrel
    have hle := totK_le hf k hk
    by_cases hlt : k < 64
    · have hlt' : k < l.of.length := by rw [hf.n]; exact hlt
      have hcf := hf.o _ (List.getElem_mem hlt')
      have HS := Lib.hid (totK_succ hlt')
      have hx := hix k l.of[k] hlt (List.getElem?_eq_getElem hlt')
      obtain ⟨c, hce⟩ : ∃ c, l.of[k] = c := ⟨_, rfl⟩
      rw [hce] at hcf HS
      simp only [hce] at hx
      obtain ⟨T, hT⟩ : ∃ T, totK l k = T := ⟨_, rfl⟩
      rw [hT] at hle HS ⊢
      have HX := Lib.hid hix
      clear hT hce hix
      go_wp2
      go_roundw
      case rel => exact ⟨k + 1, by omega, by go_num, by rw [HS.out] <;> rfl, by first | rfl | trivial⟩
      case measure => simp [intOf]; omega
    · obtain rfl : k = 64 := by omega
      clear hix
      go_wp2
      go_ret
      exact ⟨rfl, (Below.refl _ _).alloc (Nat.le_refl _) _⟩
end Go.Proofs.YtncmbbkcpmimjaaDoor
