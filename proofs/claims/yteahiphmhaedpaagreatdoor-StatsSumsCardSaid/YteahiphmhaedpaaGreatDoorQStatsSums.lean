/- The Go function angeluslaw55.StatsSums returns true for every input, and every argument reads behind the call as it read before; the tables that the row lists are tied to the program's text. No condition besides. -/
import Derived.Test.YteahiphmhaedpaaGreatDoorCards
import Derived.Test.YteahiphmhaedpaaGreatDoorTie
import Derived.Test.YteahiphmhaedpaaGreatDoorSsC
namespace Go.Proofs.YteahiphmhaedpaaGreatDoor.statsSums
open Go.ChangeShapes Go.WideShapes Go.ChangeAt Go.RowKit
open Go.Proofs.YteahiphmhaedpaaGreatDoor.Law
set_option linter.unusedVariables false
set_option linter.unusedSimpArgs false

set_option maxRecDepth 100000 in
theorem contract (H : Type) (enc : TypeId × Value → H) (W : World) (base : Nat) (args : Array Value) (ds gs : List (DataW H)) (before : List MemPlace)
    (hval : ∀ (j : Nat) t v, Tryz.f3.params[j]? = some t → args[j]? = some v → Value.okWide Tryz.prog W .any base t v)
    (hW : DataW.Whole enc Tryz.prog Tryz.f3.params.toList Rows.statsSumsSpec.vars false W args.toList ds gs before) (hL : laidMet Tryz.prog tables W) (hS : W.ShapedOpen Tryz.prog) :
    Calls Tryz.prog 3 args W fun e W' => ∃ v, e = .returned v ∧ Rows.statsSumsSpec.post enc Tryz.prog Tryz.f3 false true false false W args v W' := by
  have hW' := hW
  obtain ⟨p, q, hA0, hV, rfl, hfz, hnd⟩ := hW
  have hA : DataW.TrodAll enc Tryz.prog W 0 (fun _ => true) true Tryz.f3.params.toList args.toList ds p := hA0
  rw [Tryz.params3] at hA hval
  obtain ⟨v0, vs0, d0, ds0, p0, q0, hargs, rfl, rfl, h0, r0⟩ := trodAll_cons hA
  obtain ⟨v1, vs1, d1, ds1, p1, q1, rfl, rfl, rfl, h1, r1⟩ := trodAll_cons r0
  obtain ⟨rfl, rfl, rfl⟩ := trodAll_nil r1
  obtain rfl : args = #[v0, v1] := by cases args; simp_all
  obtain ⟨rfl, rfl⟩ := trodVars_none hV
  clear hA0
  obtain ⟨cs0, rfl, hf0⟩ := open_flat (n := 8) (ks := [.inl .i32, .inl .i32, .inl .i32, .inl .i32, .inl .i32, .inl .i32, .inl .i32, .inl .i32, .inl .i32, .inl .i32, .inl .i32, .inl .i32]) (by kernel_rfl) (.inr ⟨_, _, Tryz.underlying22⟩) (hval 0 22 v0 rfl rfl) h0
  obtain ⟨x0, us0, rfl, wx0, hf0⟩ := hf0.int
  obtain ⟨x1, us0, rfl, wx1, hf0⟩ := hf0.int
  obtain ⟨x2, us0, rfl, wx2, hf0⟩ := hf0.int
  obtain ⟨x3, us0, rfl, wx3, hf0⟩ := hf0.int
  obtain ⟨x4, us0, rfl, wx4, hf0⟩ := hf0.int
  obtain ⟨x5, us0, rfl, wx5, hf0⟩ := hf0.int
  obtain ⟨x6, us0, rfl, wx6, hf0⟩ := hf0.int
  obtain ⟨x7, us0, rfl, wx7, hf0⟩ := hf0.int
  obtain ⟨x8, us0, rfl, wx8, hf0⟩ := hf0.int
  obtain ⟨x9, us0, rfl, wx9, hf0⟩ := hf0.int
  obtain ⟨x10, us0, rfl, wx10, hf0⟩ := hf0.int
  obtain ⟨x11, us0, rfl, wx11, hf0⟩ := hf0.int
  obtain rfl := hf0.nil
  have gx0 : I32 x0 := by simpa [I32, Lit.wf, IntKind.min, IntKind.max, IntKind.signed, IntKind.bits] using wx0
  have gx1 : I32 x1 := by simpa [I32, Lit.wf, IntKind.min, IntKind.max, IntKind.signed, IntKind.bits] using wx1
  have gx2 : I32 x2 := by simpa [I32, Lit.wf, IntKind.min, IntKind.max, IntKind.signed, IntKind.bits] using wx2
  have gx3 : I32 x3 := by simpa [I32, Lit.wf, IntKind.min, IntKind.max, IntKind.signed, IntKind.bits] using wx3
  have gx4 : I32 x4 := by simpa [I32, Lit.wf, IntKind.min, IntKind.max, IntKind.signed, IntKind.bits] using wx4
  have gx5 : I32 x5 := by simpa [I32, Lit.wf, IntKind.min, IntKind.max, IntKind.signed, IntKind.bits] using wx5
  have gx6 : I32 x6 := by simpa [I32, Lit.wf, IntKind.min, IntKind.max, IntKind.signed, IntKind.bits] using wx6
  have gx7 : I32 x7 := by simpa [I32, Lit.wf, IntKind.min, IntKind.max, IntKind.signed, IntKind.bits] using wx7
  have gx8 : I32 x8 := by simpa [I32, Lit.wf, IntKind.min, IntKind.max, IntKind.signed, IntKind.bits] using wx8
  have gx9 : I32 x9 := by simpa [I32, Lit.wf, IntKind.min, IntKind.max, IntKind.signed, IntKind.bits] using wx9
  have gx10 : I32 x10 := by simpa [I32, Lit.wf, IntKind.min, IntKind.max, IntKind.signed, IntKind.bits] using wx10
  have gx11 : I32 x11 := by simpa [I32, Lit.wf, IntKind.min, IntKind.max, IntKind.signed, IntKind.bits] using wx11
  obtain ⟨cs1, rfl, hf1⟩ := open_flat (n := 8) (ks := [.inl .i32, .inl .i32, .inl .i32, .inl .i32, .inl .i32, .inl .i32, .inl .i32, .inl .i32, .inl .i32, .inl .i32, .inl .i32, .inl .i32]) (by kernel_rfl) (.inr ⟨_, _, Tryz.underlying22⟩) (hval 1 22 v1 rfl rfl) h1
  obtain ⟨y0, us1, rfl, wy0, hf1⟩ := hf1.int
  obtain ⟨y1, us1, rfl, wy1, hf1⟩ := hf1.int
  obtain ⟨y2, us1, rfl, wy2, hf1⟩ := hf1.int
  obtain ⟨y3, us1, rfl, wy3, hf1⟩ := hf1.int
  obtain ⟨y4, us1, rfl, wy4, hf1⟩ := hf1.int
  obtain ⟨y5, us1, rfl, wy5, hf1⟩ := hf1.int
  obtain ⟨y6, us1, rfl, wy6, hf1⟩ := hf1.int
  obtain ⟨y7, us1, rfl, wy7, hf1⟩ := hf1.int
  obtain ⟨y8, us1, rfl, wy8, hf1⟩ := hf1.int
  obtain ⟨y9, us1, rfl, wy9, hf1⟩ := hf1.int
  obtain ⟨y10, us1, rfl, wy10, hf1⟩ := hf1.int
  obtain ⟨y11, us1, rfl, wy11, hf1⟩ := hf1.int
  obtain rfl := hf1.nil
  have gy0 : I32 y0 := by simpa [I32, Lit.wf, IntKind.min, IntKind.max, IntKind.signed, IntKind.bits] using wy0
  have gy1 : I32 y1 := by simpa [I32, Lit.wf, IntKind.min, IntKind.max, IntKind.signed, IntKind.bits] using wy1
  have gy2 : I32 y2 := by simpa [I32, Lit.wf, IntKind.min, IntKind.max, IntKind.signed, IntKind.bits] using wy2
  have gy3 : I32 y3 := by simpa [I32, Lit.wf, IntKind.min, IntKind.max, IntKind.signed, IntKind.bits] using wy3
  have gy4 : I32 y4 := by simpa [I32, Lit.wf, IntKind.min, IntKind.max, IntKind.signed, IntKind.bits] using wy4
  have gy5 : I32 y5 := by simpa [I32, Lit.wf, IntKind.min, IntKind.max, IntKind.signed, IntKind.bits] using wy5
  have gy6 : I32 y6 := by simpa [I32, Lit.wf, IntKind.min, IntKind.max, IntKind.signed, IntKind.bits] using wy6
  have gy7 : I32 y7 := by simpa [I32, Lit.wf, IntKind.min, IntKind.max, IntKind.signed, IntKind.bits] using wy7
  have gy8 : I32 y8 := by simpa [I32, Lit.wf, IntKind.min, IntKind.max, IntKind.signed, IntKind.bits] using wy8
  have gy9 : I32 y9 := by simpa [I32, Lit.wf, IntKind.min, IntKind.max, IntKind.signed, IntKind.bits] using wy9
  have gy10 : I32 y10 := by simpa [I32, Lit.wf, IntKind.min, IntKind.max, IntKind.signed, IntKind.bits] using wy10
  have gy11 : I32 y11 := by simpa [I32, Lit.wf, IntKind.min, IntKind.max, IntKind.signed, IntKind.bits] using wy11
  refine (walkStSums x0 x1 x2 x3 x4 x5 x6 x7 x8 x9 x10 x11 y0 y1 y2 y3 y4 y5 y6 y7 y8 y9 y10 y11 (by intro x hx; simp only [List.mem_cons, List.not_mem_nil, or_false] at hx; rcases hx with h | h | h | h | h | h | h | h | h | h | h | h <;> rw [h] <;> assumption) (by intro x hx; simp only [List.mem_cons, List.not_mem_nil, or_false] at hx; rcases hx with h | h | h | h | h | h | h | h | h | h | h | h <;> rw [h] <;> assumption) W (T64.of_laid hL)).mono fun e W' ⟨he, hb⟩ => ?_
  subst he
  exact ⟨_, rfl, shut (by kernel_rfl) (by kernel_rfl) rfl rfl hW' hb⟩

theorem laid_met (os : Os) : laidMet Tryz.prog tables ((laidWorld os).forCall (fun _ _ => 0) ⟨#[], #[.agg #[.int .i32 0, .int .i32 0, .int .i32 0, .int .i32 0, .int .i32 0, .int .i32 0, .int .i32 0, .int .i32 0, .int .i32 0, .int .i32 0, .int .i32 0, .int .i32 0], .agg #[.int .i32 0, .int .i32 0, .int .i32 0, .int .i32 0, .int .i32 0, .int .i32 0, .int .i32 0, .int .i32 0, .int .i32 0, .int .i32 0, .int .i32 0, .int .i32 0]], []⟩).memory :=
  laidMet_of_run' 8 (by kernel_rfl) (by kernel_rfl)
theorem reads (os : Os) {H : Type} (enc : TypeId × Value → H) : ∃ places, DataW.whole enc Tryz.prog ((laidWorld os).forCall (fun _ _ => 0) ⟨#[], #[.agg #[.int .i32 0, .int .i32 0, .int .i32 0, .int .i32 0, .int .i32 0, .int .i32 0, .int .i32 0, .int .i32 0, .int .i32 0, .int .i32 0, .int .i32 0, .int .i32 0], .agg #[.int .i32 0, .int .i32 0, .int .i32 0, .int .i32 0, .int .i32 0, .int .i32 0, .int .i32 0, .int .i32 0, .int .i32 0, .int .i32 0, .int .i32 0, .int .i32 0]], []⟩).memory Tryz.f3.params.toList Rows.statsSumsSpec.vars false (#[.agg #[.int .i32 0, .int .i32 0, .int .i32 0, .int .i32 0, .int .i32 0, .int .i32 0, .int .i32 0, .int .i32 0, .int .i32 0, .int .i32 0, .int .i32 0, .int .i32 0], .agg #[.int .i32 0, .int .i32 0, .int .i32 0, .int .i32 0, .int .i32 0, .int .i32 0, .int .i32 0, .int .i32 0, .int .i32 0, .int .i32 0, .int .i32 0, .int .i32 0]] : Array Value).toList 12 = some ([.agg [.lit (.int .i32 0), .lit (.int .i32 0), .lit (.int .i32 0), .lit (.int .i32 0), .lit (.int .i32 0), .lit (.int .i32 0), .lit (.int .i32 0), .lit (.int .i32 0), .lit (.int .i32 0), .lit (.int .i32 0), .lit (.int .i32 0), .lit (.int .i32 0)], .agg [.lit (.int .i32 0), .lit (.int .i32 0), .lit (.int .i32 0), .lit (.int .i32 0), .lit (.int .i32 0), .lit (.int .i32 0), .lit (.int .i32 0), .lit (.int .i32 0), .lit (.int .i32 0), .lit (.int .i32 0), .lit (.int .i32 0), .lit (.int .i32 0)]], [], places) :=
  ⟨[], by kernel_rfl⟩
set_option maxRecDepth 100000 in
theorem lifted (os : Os) (started : os.Started) (H : Type) (enc : TypeId × Value → H) (F : Stop.Interp) :
    ReturnsInHanded {} Tryz.checked os 3 .any ((OpenSpec.ofChange Rows.statsSumsSpec).preRow enc Tryz.prog Tryz.f3 Rows.statsSumsRow.domain false Rows.statsSumsRow.laid) (((OpenSpec.ofChange Rows.statsSumsSpec).at F).post enc Tryz.prog Tryz.f3 false true false false) := by
  obtain ⟨places, hx⟩ := reads os enc
  refine returnsInHanded_of_row (C := Tryz.checked) (s := OpenSpec.ofChange Rows.statsSumsSpec) own started (by kernel_rfl) Tryz.func3
    (witness_row_at (enc := enc) (C := Tryz.checked) false (laidWorld os) #[.agg #[.int .i32 0, .int .i32 0, .int .i32 0, .int .i32 0, .int .i32 0, .int .i32 0, .int .i32 0, .int .i32 0, .int .i32 0, .int .i32 0, .int .i32 0, .int .i32 0], .agg #[.int .i32 0, .int .i32 0, .int .i32 0, .int .i32 0, .int .i32 0, .int .i32 0, .int .i32 0, .int .i32 0, .int .i32 0, .int .i32 0, .int .i32 0, .int .i32 0]] rfl (by kernel_rfl) (by kernel_rfl) (by kernel_rfl)
      (OpenSpec.preRow_of_cond 12 hx (by kernel_rfl) (fun k hk => by cases hk) (by kernel_rfl) (laid_met os))) ?_
  intro W base args ds gs before hval hW _ _ _ hL hS _
  exact contract H enc W base args ds gs before hval hW hL hS
set_option maxHeartbeats 51200000 in
theorem closed : joinedFacts Tryz.prog 3 Tryz.f3 (OpenSpec.ofChange Rows.statsSumsSpec).bare Rows.statsSumsRow = true := by
  unfold joinedFacts
  simp only [Bool.and_eq_true]
  repeat' apply And.intro
  all_goals (as_aux_lemma => kernel_rfl)
theorem said : Rows.StatsSumsSaid :=
  OpenClaim.holds_of_cond 3 Tryz.f3 rfl rfl rfl rfl rfl rfl rfl ⟨rfl, rfl, rfl, rfl, rfl⟩ rfl rfl rfl rfl rfl (by kernel_rfl) Tryz.func3 closed
    (of_decide_eq_true (by kernel_rfl)) (by unfold Func.isWrapper; first | (rw [if_pos (by decide +kernel)]; kernel_rfl) | (rw [if_neg (by decide +kernel)]; exact ⟨rfl, rfl⟩))
    (fun os started H enc _ F => by rw [OpenClaim.pre_eq_preRow]; exact lifted os started H enc F)
end Go.Proofs.YteahiphmhaedpaaGreatDoor.statsSums
