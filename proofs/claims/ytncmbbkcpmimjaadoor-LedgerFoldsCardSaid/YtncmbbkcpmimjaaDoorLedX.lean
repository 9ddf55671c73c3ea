/- LedgerTexts: the walk. -/
import Derived.Test.YtncmbbkcpmimjaaDoorLedW
namespace Go.Proofs.YtncmbbkcpmimjaaDoor
open Go.RowKit Law
set_option linter.unusedVariables false

theorem quiet_ldLoad {C : World → Prop} {o : Oper} {a : Act} {K : Act → Prop} (x : Operand) (ho : o.op = .load 26 x) (b : Nat) (hx : a.eval x = .pointer (some ⟨b, 0, none⟩)) (l : Ld) (hf : l.Fits)
    (hC : ∀ w, C w → LdAt w b l) (hk : K (a.put o.dst (.agg l.cells.toArray))) : o.quiet Tryd.prog a C K :=
  ⟨_, fun w hw => by
    unfold Oper.quietAt execOp
    simp only [ho, hx, Instr.loadAt, Instr.sureAddr, Sem.run_bind, Sem.run_pure, Result.andThen_ok, run_loadVar_mid w b 0 26 l.cells _ (hC w hw) Tryd.underlying26 rfl (by rw [Ld.len hf]; exact ldInfo)]
    exact ⟨rfl, rfl⟩, hk⟩
set_option maxHeartbeats 1600000 in
set_option maxRecDepth 100000 in
theorem walkLTexts (l : Ld) (hf : l.Fits) (n : Int) (w : World) (hP : P10 w) (hT : T64 w) :
    Calls Tryd.prog 4 #[l.val, .int .i64 n] w fun en w' => en = .returned (.bool true) ∧ Below w.heap.size w w' := by
  have hA0 := LdAt.new w l 26
  have hb0 : Below w.heap.size w (w.alloc (.cells l.cells.toArray 26)) := (Below.refl _ _).alloc (Nat.le_refl _) _
  obtain ⟨T, hT2⟩ : ∃ T, textL l n = T := ⟨_, rfl⟩
  have C1 := fun (W : Later (w.alloc (.cells l.cells.toArray 26))) => ledText l hf n W.val ((hP.below hb0).later W) ((hT.below hb0).later W)
  have C2 := fun (W : Later (w.alloc (.cells l.cells.toArray 26))) => refText l hf n W.val
  have C3 := Lib.hid (fun (W : Later (w.alloc (.cells l.cells.toArray 26))) => works37 W.val ((hP.below hb0).later W) ((hT.below hb0).later W))
  rw [hT2] at C1 C2
  unfold Ld.val at C1 C2 ⊢
  have C1 := Lib.hid C1
  have C2 := Lib.hid C2
  have HA := Lib.hid (And.intro hA0 hb0)
  have HL : Hid (∀ w', (∃ W : Later (w.alloc (.cells l.cells.toArray 26)), w' = W.val) → LdAt w' w.heap.size l) := by
    rintro w' ⟨W, rfl⟩
    exact hA0.below W.h
  clear hT2 hA0 hb0 hP hT
  go_enter Tryd.func4, Tryd.ntmps4
  go_wp2_with fail
  refine wp_region_later (by kernel_rfl) (by kernel_rfl) ?_
  refine BigFrame.wpQuiet_want rfl fun K hK => ?_
  refine quiet_ldLoad _ rfl w.heap.size rfl l hf HL.out ?_
  refine hK _ ?_
  clear hK
  dsimp only [Act.put]
  simp only [List.setIfInBounds_toArray, List.set_cons_succ, List.set_cons_zero]
  go_big_quiet_step (fail)
  go_big_quiet_step (exact later_of (C1.out _))
  refine BigFrame.wpQuiet_want rfl fun K hK => ?_
  refine quiet_ldLoad _ rfl w.heap.size rfl l hf HL.out ?_
  refine hK _ ?_
  clear hK
  dsimp only [Act.put]
  simp only [List.setIfInBounds_toArray, List.set_cons_succ, List.set_cons_zero]
  repeat (go_big_quiet_step (first | exact later_of (C2.out _) | exact later_of (C3.out _)))
  refine wpQuiet_nil ?_
  rintro _ ⟨⟨W, hW⟩, rfl⟩
  go_wp2_with fail
  go_ret
  exact ⟨rfl, HA.out.2.trans (hW.mono (by simp))⟩
end Go.Proofs.YtncmbbkcpmimjaaDoor
