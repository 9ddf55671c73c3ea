/- All links between nodes, the program's and the reference's; a ring of four. -/
import Derived.Test.YteahiphmhaedpaaGreatDoorRgB
namespace Go.Proofs.YteahiphmhaedpaaGreatDoor
open Go.RowKit Law Go.Shelf
set_option linter.unusedVariables false
set_option linter.unusedSimpArgs false
set_option maxRecDepth 100000
attribute [local go_sem] Oper.semAt_some

def rowTo (x b : Nat) : List Pr := ((List.range b).filter fun (y : Nat) => decide (x < y)).map fun (y : Nat) => ((x : Int), (y : Int))
def fullTo (n a : Nat) : List Pr := (List.range a).flatMap fun x => rowTo x n
def fullL (n : Nat) : List Pr := fullTo n n
theorem rowTo_zero (x : Nat) : rowTo x (x + 1) = [] := by
  unfold rowTo
  rw [List.map_eq_nil_iff, List.filter_eq_nil_iff]
  intro y hy
  have := List.mem_range.1 hy
  simp; omega
theorem rowTo_succ {x b : Nat} (h : x < b) : rowTo x (b + 1) = rowTo x b ++ [((x : Int), (b : Int))] := by
  unfold rowTo; rw [List.range_succ, List.filter_append, List.map_append]; simp [h]
theorem rowTo_none {x b : Nat} (h : b ≤ x + 1) : rowTo x b = [] := by
  unfold rowTo
  rw [List.map_eq_nil_iff, List.filter_eq_nil_iff]
  intro y hy
  have := List.mem_range.1 hy
  simp; omega
theorem fullTo_succ (n a : Nat) : fullTo n (a + 1) = fullTo n a ++ rowTo a n := by
  unfold fullTo; rw [List.range_succ, List.flatMap_append]; simp
theorem rowTo_len (x b : Nat) : (rowTo x b).length ≤ b := by
  unfold rowTo; rw [List.length_map]
  have := List.length_filter_le (fun (y : Nat) => decide (x < y)) (List.range b)
  simpa using this
theorem fullTo_len (n : Nat) : ∀ a : Nat, (fullTo n a).length ≤ a * n
  | 0 => by simp [fullTo]
  | a + 1 => by
    have h1 := fullTo_len n a
    have h2 := rowTo_len a n
    rw [fullTo_succ, List.length_append, Nat.add_mul]; omega
theorem fullTo_len64 {n a : Nat} (hn : n ≤ 64) (ha : a ≤ 64) : (fullTo n a).length ≤ 4096 := Nat.le_trans (fullTo_len n a) (show a * n ≤ 64 * 64 from Nat.mul_le_mul ha hn)
theorem flatP_app (a b : List Pr) : flatP (a ++ b) = flatP a ++ flatP b := by simp [flatP]
set_option maxHeartbeats 3200000 in
theorem rFull (n : Nat) (hn : n ≤ 64) (w : World) : Calls Tryz.prog 14 #[.int .i64 (n : Int)] w fun e w' => ∃ v, e = .returned v ∧ w'.ownsRow w.heap.size 58 2 v (fullL n).length (flatP (fullL n)) ∧ Below w.heap.size w w' := by
  obtain ⟨i0, hi, hz0, hz1, hz2⟩ := info_parts prInfo
  have h00 := World.ownsRow_made (base := w.heap.size) (e := 58) (size := 2) w #[] 0 (Nat.le_refl _) (by simp [maxLen]) rfl
  have hb0 : Below w.heap.size w (w.alloc (.cells #[] 58)) := (Below.refl _ _).alloc (Nat.le_refl _) _
  have h65 : decide ((n : Int) < 65) = true := decide_eq_true (by omega)
  go_enter Tryz.func14, Tryz.ntmps14
  go_wp2
  go_loopw [3, 4] (fun v i wr => ∃ a : Nat, a ≤ n ∧ i = .int .i64 a ∧ wr.ownsRow w.heap.size 58 2 v (fullTo n a).length (flatP (fullTo n a)) ∧ Below w.heap.size w wr) (fun _ i _ => n - (intOf i).toNat)
  case atStart => exact ⟨0, Nat.zero_le _, rfl, h00, hb0⟩
  case round =>
    obtain ⟨a, ha, rfl, hown, hb⟩ := hrel
    obtain ⟨W1, rfl⟩ : ∃ W1, W1 = wr := ⟨_, rfl⟩
    clear h00 hb0
    by_cases hlt : a < n
    · have HOWN := Lib.hid hown
      have HB := Lib.hid hb
      clear hown hb
      go_wp2
      go_loopw [3, 5] (fun v i wr => ∃ b : Nat, (b ≤ n ∨ b = a + 1) ∧ a < b ∧ i = .int .i64 b ∧ wr.ownsRow w.heap.size 58 2 v (fullTo n a ++ rowTo a b).length (flatP (fullTo n a ++ rowTo a b)) ∧ Below w.heap.size w wr) (fun _ i _ => n - (intOf i).toNat)
      case atStart => exact ⟨a + 1, .inr rfl, by omega, by go_num, by rw [rowTo_zero, List.append_nil]; exact HOWN.out, HB.out⟩
      case round =>
        obtain ⟨b, hbn, hab, rfl, hown, hb⟩ := hrel
        obtain ⟨W2, rfl⟩ : ∃ W2, W2 = wr := ⟨_, rfl⟩
        clear HOWN HB
        by_cases hlb : b < n
        · have HS : Hid (fullTo n a ++ rowTo a (b + 1) = (fullTo n a ++ rowTo a b) ++ [((a : Int), (b : Int))]) := by unfold Hid; rw [rowTo_succ hab, List.append_assoc]
          have hlen : (fullTo n a ++ rowTo a b).length ≤ 5000 := by
            have h1 := fullTo_len64 hn (show a ≤ 64 by omega)
            have h2 := rowTo_len a b
            rw [List.length_append]; omega
          obtain ⟨lx, hlx⟩ : ∃ lx, (fullTo n a ++ rowTo a b).length = lx := ⟨_, rfl⟩
          rw [hlx] at hown hlen
          obtain ⟨AA, cc, rfl, hcc⟩ := own_form2 hown
          go_wp2_with (at_builtin; refine wpList_append_own _ rfl _ _ 30 rfl w.heap.size 58 i0 _ 2 16 Tryz.underlying30 hi hz0 hz1 hz2 rfl (by decide) _ _ _ rfl (hown.alloc (.cells #[.int .i64 (a : Int), .int .i64 (b : Int)] 58)) ⟨W2.heap.size, 0, none⟩ 1 1 [.int .i64 (a : Int), .int .i64 (b : Int)] rfl rfl ?c1 ?c2 ?c3 ?c4 ?c5 ?_)
          case c1 =>
            intro j u hj
            rw [Lib.add_plain, World.cell?_alloc_at _ _ _ _ (by simp)]
            simpa using hj
          case c2 => intro u hu; simp at hu; rcases hu with rfl | rfl <;> rfl
          case c3 => unfold maxLen; omega
          case c4 => omega
          case c5 => have := hb.size; simp; omega
          intro v' w1 hown' hgrow _
          have hb4 : Below w.heap.size w w1 := (hb.alloc hb.size _).grown hgrow (by have := hb.size; simp; omega) (fun j hj => (hown.lt j hj).1)
          have hown2 : w1.ownsRow w.heap.size 58 2 v' (fullTo n a ++ rowTo a (b + 1)).length (flatP (fullTo n a ++ rowTo a (b + 1))) := by
            rw [HS.out, flatP_snoc, List.length_append, hlx]
            simpa [Pr.cells, flatP] using hown'
          have HR := Lib.hid (And.intro hown2 hb4)
          clear hown2 hb4 hown' hgrow hown hb
          go_wp2
          go_roundw
          case rel => exact ⟨b + 1, by omega, by omega, by go_num, HR.out⟩
          case measure => simp [intOf]; omega
        · have HE : Hid (fullTo n a ++ rowTo a b = fullTo n (a + 1)) := by
            unfold Hid; rw [fullTo_succ]
            rcases hbn with h | h
            · rw [show b = n by omega]
            · rw [h, rowTo_zero, rowTo_none (by omega)]
          rw [HE.out] at hown
          have HR := Lib.hid (And.intro hown hb)
          clear hown hb
          go_wp2
          go_roundw
          case rel => exact ⟨a + 1, by omega, by go_num, HR.out⟩
          case measure => simp [intOf]; omega
    · obtain rfl : a = n := by omega
      have HR := Lib.hid (And.intro hown hb)
      clear hown hb
      go_wp2
      go_ret
      exact ⟨_, rfl, HR.out⟩
def ring4 : List Pr := [(0, 1), (1, 2), (2, 3), (3, 0)]
theorem ring4_take : ∀ k : Nat, k < 3 → ring4.take (k + 1) = ring4.take k ++ [((k : Int), (k : Int) + 1)] := by decide
end Go.Proofs.YteahiphmhaedpaaGreatDoor
