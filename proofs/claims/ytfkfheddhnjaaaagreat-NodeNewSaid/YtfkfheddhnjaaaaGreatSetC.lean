/- Sets of nodes: With, Without, Of of the package and of the reference; the reference's First, Below; two lists compared; the list below a number. -/
import Derived.Test.YtfkfheddhnjaaaaGreatSetB
import Derived.Laws.AppendOwnNone
import Derived.Test.YtfkfheddhnjaaaaGreatOwnOr
namespace Go.Proofs.YtfkfheddhnjaaaaGreat
open Go.RowKit Law
set_option linter.unusedVariables false
set_option linter.unusedSimpArgs false
set_option maxRecDepth 100000

def I64s (l : List Int) : Prop := ∀ z ∈ l, -9223372036854775808 ≤ z ∧ z ≤ 9223372036854775807
theorem withN_take {l : List Int} {k : Nat} (hk : k < l.length) (s : Nat) : withN s (l.take (k + 1)) = withN s (l.take k) ||| bitN l[k] := by
  rw [List.take_succ_eq_append_getElem hk, withN_snoc]
theorem withoutN_take {l : List Int} {k : Nat} (hk : k < l.length) (s : Nat) : withoutN s (l.take (k + 1)) = withoutN s (l.take k) ^^^ (withoutN s (l.take k) &&& bitN l[k]) := by
  rw [List.take_succ_eq_append_getElem hk, withoutN_snoc]
theorem nodesWith {n : Nat} (s : Nat) (hs : s < 18446744073709551616) (A : Option Addr) (c : Nat) (l : List Int) (hn : l.length = n) (hm : n ≤ 140737488355328) (hl : I64s l) (w : World) (hA : IntsAt w A l) :
    Calls Tryz.prog 98 #[.int .u64 (s : Int), .slice A n c] w fun e w' => e = .returned (.int .u64 (withN s l : Int)) ∧ w = w' := by
  have HN := Lib.hid hn
  clear hn
  go_enter Tryz.func98, Tryz.ntmps98
  go_wp2
  go_loop [0, 9] (fun s' i => ∃ k : Nat, k ≤ n ∧ i = .int .i64 k ∧ s' = .int .u64 (withN s (l.take k) : Int)) (fun _ i => n - (intOf i).toNat)
  case atStart => exact ⟨0, Nat.zero_le _, rfl, rfl⟩
  case round =>
    obtain ⟨k, hk, rfl, rfl⟩ := hrel
    have hx := withN_lt (l.take k) s hs
    by_cases hlt : k < n
    · have hlt' : k < l.length := by rw [HN.out]; exact hlt
      obtain ⟨b, off, rfl, c0⟩ := hA.at_ (Below.refl _ _) hlt'
      have HS := Lib.hid (withN_take hlt' s)
      obtain ⟨g0, g1⟩ := hl _ (List.getElem_mem hlt')
      have hob := bits_or_u64_nat (withN s (l.take k)) (bitN l[k]) hx (bitN_lt _)
      go_wp2_with (go_at_call 117; refine (nodesBit _ g0 g1 _).mono ?_; rintro e w' ⟨rfl, rfl⟩)
      go_round
      case rel => exact ⟨k + 1, by omega, by go_num, by rw [HS.out]⟩
      case measure => simp [intOf]; omega
    · have E : Hid (l.take k = l) := List.take_of_length_le (by rw [HN.out]; omega)
      go_wp2
      go_ret
      exact ⟨ret_int (by rw [E.out]), rfl⟩
/-! ### the reference's -/
theorem elsI_len (s : Nat) : (elsI s).length ≤ 64 := by
  have := els_len s
  unfold elsI
  rw [List.length_map]
  exact this
/-! ### the reference's Without, First, Below -/
theorem OwnOr.ints {w : World} {base : Nat} {A : Option Addr} {n c : Nat} {zs : List Int} (h : OwnOr w base 3 1 (.slice A n c) n (intV zs)) : IntsAt w A zs := by
  rcases h with h | ⟨b, _, rfl, hx⟩
  · exact ownInts h
  · intro k z hz
    have : zs = [] := by simpa using hx
    subst this
    simp at hz
def leavesK (s : Nat) (l : List Int) (k : Nat) : List Int := ((elsI s).take k).filter fun i => !inI l i
theorem leavesK_len (s : Nat) (l : List Int) (k : Nat) : (leavesK s l k).length ≤ k := by
  have h1 := List.length_filter_le (fun i => !inI l i) ((elsI s).take k)
  have h2 : ((elsI s).take k).length ≤ k := List.length_take_le _ _
  unfold leavesK
  omega
theorem leavesK_yes {s : Nat} {l : List Int} {k : Nat} (hk : k < (elsI s).length) (h : inI l (elsI s)[k] = false) : leavesK s l (k + 1) = leavesK s l k ++ [(elsI s)[k]] := by
  unfold leavesK
  rw [List.take_succ_eq_append_getElem hk, List.filter_append]
  simp [h]
theorem leavesK_no {s : Nat} {l : List Int} {k : Nat} (hk : k < (elsI s).length) (h : inI l (elsI s)[k] = true) : leavesK s l (k + 1) = leavesK s l k := by
  unfold leavesK
  rw [List.take_succ_eq_append_getElem hk, List.filter_append]
  simp [h]
theorem leavesK_all (s : Nat) (l : List Int) {k : Nat} (h : (elsI s).length ≤ k) : leavesK s l k = leaves s l := by
  unfold leavesK
  rw [List.take_of_length_le h]
  rfl
def belowK (s : Nat) (i : Int) (k : Nat) : Nat := (((elsI s).take k).filter fun z => decide (z < i)).length
theorem belowK_yes {s : Nat} {i : Int} {k : Nat} (hk : k < (elsI s).length) (h : (elsI s)[k] < i) : belowK s i (k + 1) = belowK s i k + 1 := by
  unfold belowK
  rw [List.take_succ_eq_append_getElem hk, List.filter_append, List.length_append]
  simp [h]
theorem belowK_no {s : Nat} {i : Int} {k : Nat} (hk : k < (elsI s).length) (h : ¬ (elsI s)[k] < i) : belowK s i (k + 1) = belowK s i k := by
  unfold belowK
  rw [List.take_succ_eq_append_getElem hk, List.filter_append, List.length_append]
  simp [h]
theorem belowK_le (s : Nat) (i : Int) (k : Nat) : belowK s i k ≤ k := by
  have h1 := List.length_filter_le (fun z : Int => decide (z < i)) ((elsI s).take k)
  have h2 : ((elsI s).take k).length ≤ k := List.length_take_le _ _
  unfold belowK
  omega
theorem belowK_all (s : Nat) (i : Int) {k : Nat} (h : (elsI s).length ≤ k) : belowK s i k = belowN s i := by
  unfold belowK
  rw [List.take_of_length_le h]
  rfl
/-! ### two lists compared; the list below a number -/
def upK (k : Nat) : List Int := (List.range k).map Int.ofNat
theorem upK_len (k : Nat) : (upK k).length = k := by simp [upK]
theorem upK_succ (k : Nat) : upK (k + 1) = upK k ++ [(k : Int)] := by
  unfold upK
  rw [List.range_succ, List.map_append]
  rfl
end Go.Proofs.YtfkfheddhnjaaaaGreat
