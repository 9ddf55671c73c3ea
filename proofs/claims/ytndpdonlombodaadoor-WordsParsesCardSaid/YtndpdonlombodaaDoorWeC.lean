/- words.Parse. -/
import Derived.Test.YtndpdonlombodaaDoorWeB
namespace Go.Proofs.YtndpdonlombodaaDoor
open Go.RowKit Law
set_option linter.unusedVariables false
set_option linter.unusedSimpArgs false

/-! ### what a line's act is, in bounds -/
theorem small0 : (0 : Nat) < 4294967296 := by decide
theorem lowN_lt (x : Int) : lowN x < 4294967296 := by unfold lowN; omega
theorem fated_fits (w : List (List UInt8)) : (fatedW w).1.p < 4294967296 ∧ (fatedW w).1.b < 4294967296 := by
  cases w with
  | nil => exact ⟨small0, small0⟩
  | cons v r =>
    unfold fatedW
    simp only
    split
    · exact ⟨small0, small0⟩
    · cases numsL r with
      | none => exact ⟨small0, small0⟩
      | some l =>
        simp only
        repeat' split
        all_goals first | exact ⟨small0, small0⟩ | exact ⟨lowN_lt _, lowN_lt _⟩
theorem actW_fits (k : Int) (w : List (List UInt8)) : (actW k w).1.f.p < 4294967296 ∧ (actW k w).1.f.b < 4294967296 := by
  unfold actW
  split
  · cases numL (w.getD 0 []) with
    | none => exact ⟨small0, small0⟩
    | some n =>
      cases hexL (w.getD 1 []) with
      | none => exact ⟨small0, small0⟩
      | some b => exact ⟨small0, small0⟩
  · split
    · exact ⟨small0, small0⟩
    · cases numsL w with
      | none => exact ⟨small0, small0⟩
      | some l =>
        simp only
        repeat' split
        all_goals exact ⟨small0, small0⟩
theorem rawW_fits (w : List (List UInt8)) : (rawW w).1.f.p < 4294967296 ∧ (rawW w).1.f.b < 4294967296 := by
  unfold rawW
  split
  · exact ⟨small0, small0⟩
  · split
    · exact fated_fits w.tail
    · exact actW_fits _ _
theorem good_fits {x : Ac} (h : goodA x = true) (hp : x.f.p < 4294967296) (hb : x.f.b < 4294967296) : x.Fits := by
  rcases good_shape h with ⟨n, rfl, h0, h1⟩ | ⟨f, rfl, hf⟩ | ⟨i, n, rfl, h0, h1, h2, h3⟩ | ⟨i, b, rfl, h0, h1, h2⟩ | ⟨k, i, rfl, h0, h1, hk⟩
  · constructor <;> simp only [Fa0] <;> omega
  · rcases goodF_shape hf with rfl | ⟨d, rfl, h0, h1⟩ | ⟨d, a, rfl, h0, h1, h2, h3⟩ | ⟨d, p, b, rfl, h0, h1⟩ <;> (constructor <;> simp only at * <;> omega)
  · constructor <;> simp only [Fa0] <;> omega
  · constructor <;> simp only [Fa0] <;> omega
  · rcases hk with rfl | rfl | rfl | rfl <;> (constructor <;> simp only [Fa0] <;> omega)
theorem oneL_good {s : List UInt8} (h : (oneL s).2 = 0) : goodA (oneL s).1 = true ∧ (oneL s).1.Fits := by
  unfold oneL oneW at h ⊢
  split at h
  · rename_i he; exact absurd h he
  · rename_i he
    rw [if_neg he]
    split at h
    · rename_i hg
      rw [if_pos hg]
      exact ⟨hg, good_fits hg (rawW_fits _).1 (rawW_fits _).2⟩
    · exact absurd h (by decide)
/-- The acts of lines that are all right. -/
theorem goL_all : ∀ (ls : List (List UInt8)) (i : Nat) (acc : List Ac), (∀ s ∈ ls, (oneL s).2 = 0) → goL i acc ls = (acc ++ ls.map (fun s => (oneL s).1), ((i + ls.length : Nat) : Int), 0)
  | [], i, acc, _ => by simp [goL]
  | s :: r, i, acc, h => by
    unfold goL
    rw [if_neg (by simpa using h s (by simp)), goL_all r (i + 1) _ (fun x hx => h x (by simp [hx]))]
    simp
    omega
theorem goL_bad : ∀ (ls : List (List UInt8)) (k : Nat) (hk : k < ls.length) (i : Nat) (acc : List Ac), (∀ s ∈ ls.take k, (oneL s).2 = 0) → ¬ (oneL ls[k]).2 = 0 → goL i acc ls = ([], ((i + k : Nat) : Int), (oneL ls[k]).2)
  | s :: r, 0, hk, i, acc, h, hb => by
    unfold goL
    rw [if_pos (show (oneL s).2 ≠ 0 from hb)]
    rfl
  | s :: r, k + 1, hk, i, acc, h, hb => by
    unfold goL
    rw [if_neg (by simpa using h s (by simp)), goL_bad r k (by simpa using hk) (i + 1) _ (fun x hx => h x (by simp [hx])) (by simpa using hb)]
    simp
    omega
/-- What Parse hands back: acts, how many, the error. -/
def ParsePost (o : List Ac × Int × Int) (w : World) (e : Ending) (w' : World) : Prop := ∃ (A : Option Addr) (c : Nat) (xs : List Aw), e = .returned (.tuple #[.slice A xs.length c, .int .i64 o.2.1, .int .i64 o.2.2]) ∧ acs xs = o.1 ∧ (∀ x ∈ xs, x.Ok) ∧ ActsAt w' A xs ∧ Below w.heap.size w w'
end Go.Proofs.YtndpdonlombodaaDoor
