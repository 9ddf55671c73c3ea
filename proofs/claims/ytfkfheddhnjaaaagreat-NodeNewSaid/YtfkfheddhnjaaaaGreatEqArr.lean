/- == of two arrays of integers. -/
import Derived.Laws.StructEq
namespace Go.Proofs.YtfkfheddhnjaaaaGreat
open Go
set_option linter.unusedVariables false
set_option linter.unusedSimpArgs false
def eqElems (d : Nat) (e : TypeId) (n : Nat) (xs ys : Array Value) : List Nat → Sem Bool
  | [] => pure true
  | i :: r => do
    let a ← part e xs (i * n)
    let b ← part e ys (i * n)
    let q ← Op.equalIn d e a b
    if (!q) = true then pure false else eqElems d e n xs ys r
theorem run_equalIn_array {P : Program} (w : World) (d : Nat) (t : TypeId) (len : Nat) (e : TypeId) (n : Nat) (xs ys : Array Value) (ht : P.underlying t = some (.array len e)) (hz : (sizeOf e).run P w = .ok n w) :
    (Op.equalIn (d + 1) t (.agg xs) (.agg ys)).run P w = (eqElems d e n xs ys (List.range' 0 len)).run P w := by
  simp only [Op.equalIn, Sem.run_bind, run_underlying ht, Result.andThen_ok, hz]
  rw [Std.Legacy.Range.forIn_eq_forIn_range']
  simp only [Std.Legacy.Range.size, Nat.sub_zero, Nat.add_sub_cancel, Nat.div_one]
  generalize List.range' 0 len = l
  clear ht hz
  induction l generalizing w with
  | nil => simp [eqElems]
  | cons i l ih =>
    simp only [List.forIn_cons, eqElems, Sem.run_bind]
    generalize (part e xs (i * n)).run P w = r1
    cases r1 with
    | halt x w1 => simp [Result.andThen]
    | ok a w1 =>
      simp only [Result.andThen_ok]
      generalize (part e ys (i * n)).run P w1 = r2
      cases r2 with
      | halt x w2 => simp [Result.andThen]
      | ok b w2 =>
        simp only [Result.andThen_ok]
        generalize (Op.equalIn d e a b).run P w2 = r3
        cases r3 with
        | halt x w3 => simp [Result.andThen]
        | ok q w3 =>
          cases q
          · simp only [Result.andThen_ok, Bool.not_false, if_true, Sem.run_pure]
          · simp only [Result.andThen_ok, Bool.not_true, Bool.false_eq_true, if_false, Sem.run_pure]
            exact ih w3
/-- Two arrays of integers of one kind: equal where their numbers are. -/
theorem run_eqElems_int {P : Program} (w : World) (d : Nat) (e : TypeId) (k : IntKind) (xs ys : Array Value) (hu : P.underlying e = some (.int k)) (ha : ∀ w, (isAgg e).run P w = .ok false w) :
    ∀ (l : List Nat) (zs us : Nat → Int), (∀ i ∈ l, xs[i]? = some (.int k (zs i)) ∧ ys[i]? = some (.int k (us i))) → (eqElems (d + 1) e 1 xs ys l).run P w = .ok (l.all fun i => zs i == us i) w
  | [], _, _, _ => by simp [eqElems]
  | i :: l, zs, us, h => by
    obtain ⟨h1, h2⟩ := h i (by simp)
    have ih := run_eqElems_int w d e k xs ys hu ha l zs us (fun j hj => h j (by simp [hj]))
    simp only [eqElems, Sem.run_bind, Nat.mul_one, part, ha, Result.andThen_ok, Bool.false_eq_true, if_false]
    simp only [h1, h2, Sem.run_pure, Result.andThen_ok, run_equalIn_int w d e k k _ _ hu, List.all_cons]
    by_cases hq : zs i = us i
    · rw [if_neg (by simp [hq]), ih]
      simp [hq]
    · rw [if_pos (by simp [hq])]
      simp [hq]
/-- == of two such arrays. -/
theorem run_eqArr {P : Program} (t : TypeId) (len : Nat) (e : TypeId) (k : IntKind) (ht : P.underlying t = some (.array len e)) (hu : P.underlying e = some (.int k)) (ha : ∀ w, (isAgg e).run P w = .ok false w) (hz : ∀ w, (sizeOf e).run P w = .ok 1 w)
    (zs us : List Int) (h1 : zs.length = len) (h2 : us.length = len) (w : World) (d : Nat) : (Op.equalIn (d + 2) t (.agg (zs.map (Value.int k)).toArray) (.agg (us.map (Value.int k)).toArray)).run P w = .ok (zs == us) w := by
  rw [run_equalIn_array w (d + 1) t len e 1 _ _ ht (hz w), run_eqElems_int w d e k _ _ hu ha _ (fun i => zs.getD i 0) (fun i => us.getD i 0)]
  · congr 1
    rw [Bool.eq_iff_iff, List.all_eq_true, beq_iff_eq]
    constructor
    · intro h
      apply List.ext_getElem (by omega)
      intro i hi hi'
      have := h i (by simp; omega)
      simpa [List.getD, hi, hi'] using this
    · rintro rfl i _
      simp
  · intro i hi
    have hi' : i < len := by simpa using hi
    simp [List.getD, h1, h2, hi']
end Go.Proofs.YtfkfheddhnjaaaaGreat
