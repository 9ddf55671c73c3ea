/- What is suggested for a configuration fits into words. -/
import Derived.Test.YtpbfacabafkheaaDoorCnG
import Derived.Test.YtpbfacabafkheaaDoorRhD
namespace Go.Proofs.YtpbfacabafkheaaDoor
open Go.RowKit Law
set_option linter.unusedVariables false
set_option linter.unusedSimpArgs false
set_option maxRecDepth 100000

/-! ### what is suggested fits -/
theorem sugF_fits {c : Cn} (h : FitsC c) : ∀ (f k : Nat), 12 ≤ k → k + f ≤ 41 → FitsC (sugF c f k)
  | 0, k, _, _ => h
  | f + 1, k, h1, h2 => by
    show FitsC (if enoughB (stepC c k) then stepC c k else sugF c f (k + 1))
    split
    · rename_i he
      have hg : goodC (baseC c k) = true := by
        cases hgb : goodC (baseC c k) with
        | true => rfl
        | false => rw [step_bad hgb] at he; cases he
      have hd := step_delta hg
      have hp := pow_fit h1 (show k ≤ 40 by omega)
      have hq := pow_four (k := k) (by omega)
      intro x hx
      unfold numsC stepC baseC at hx
      simp only [List.mem_cons, List.not_mem_nil, or_false] at hx
      have hin : ∀ y ∈ numsC c, -9223372036854775808 ≤ y ∧ y ≤ 9223372036854775807 := h
      unfold numsC at hin
      simp only [List.mem_cons, List.not_mem_nil, or_false] at hin
      have hd' : 0 ≤ bDelta (baseC c k) ∧ bDelta (baseC c k) ≤ 200000000000000000 := hd
      unfold baseC at hd'
      rcases hx with rfl | rfl | rfl | rfl | rfl | rfl | rfl | rfl | rfl | rfl | rfl | rfl | rfl | rfl
      all_goals first | (exact hin _ (by simp)) | omega
    · exact sugF_fits h f (k + 1) (by omega) (by omega)
theorem sugC_fits {c : Cn} (h : FitsC c) : FitsC (sugC c) := sugF_fits h 29 12 (by omega) (by omega)
end Go.Proofs.YtpbfacabafkheaaDoor
