/- The chapter's example; LedgerTexts: the walk. -/
import Derived.Test.YtncmbbkcpmimjaaDoorLedC
import Derived.Test.YtncmbbkcpmimjaaDoorLedT
namespace Go.Proofs.YtncmbbkcpmimjaaDoor
open Go.RowKit Law
set_option linter.unusedVariables false

def exE : En := ⟨0, 5, 1, 2⟩
def exL : Ld := addL Ld0 exE []
theorem exE_fits : exE.Fits := ⟨by decide, by decide, by decide, by decide, by decide⟩
theorem exL_fits : exL.Fits := addL_fits Ld0.fits _ _
theorem exL_count : exL.count = 1 := by decide +kernel
theorem exL_text : textL exL 64 = [49, 32, 48, 48, 48, 48, 48, 48, 48, 48, 48, 50, 48, 49, 48, 48, 48, 53, 32, 49, 58, 49] := by decide +kernel
theorem built0 : Tryd.prog.built 26 [] = some Ld0.cells.toArray := by kernel_rfl
/-- A ledger read as a whole, where the reading hangs on what came ahead. -/
theorem wp_ldLoadG {ops : Array Oper} {rest : List Oper} {op : Oper} {a : Act} {w : World} {Q : Exit → Act → World → Prop} (x : Operand) (ho : op.op = .load 26 x) (hw : Region.wanted op (yielded ops a.tmps) = true)
    (b : Nat) (hx : a.eval x = .pointer (some ⟨b, 0, none⟩)) (l : Ld) (hf : l.Fits) (h : LdAt w b l) (hk : wpList Tryd.prog ops Q rest (a.put op.dst (.agg l.cells.toArray)) w) : wpList Tryd.prog ops Q (op :: rest) a w := by
  unfold wpList
  rw [if_pos hw]
  exact .inl (wp_load_mid 26 x ho b 0 hx l.cells _ h Tryd.underlying26 rfl (by rw [Ld.len hf]; exact ldInfo) hk)
set_option maxRecDepth 100000 in
theorem wp_ldBuild0 {ops : Array Oper} {rest : List Oper} {op : Oper} {a : Act} {w : World} {Q : Exit → Act → World → Prop} (hgd : op.guard = none) (ho : op.op = .build 26 #[])
    (hk : wpList Tryd.prog ops Q rest (a.put op.dst (.agg Ld0.cells.toArray)) w) : wpList Tryd.prog ops Q (op :: rest) a w :=
  wpList_build hgd 26 #[] ho (by simp [built0]) (by simpa [built0] using hk)
set_option maxHeartbeats 1600000 in
set_option maxRecDepth 100000 in
theorem works37 (w : World) (hP : P10 w) (hT : T64 w) : Calls Tryd.prog 10 #[] w fun en w' => en = .returned (.bool true) ∧ Below w.heap.size w w' := by
  obtain ⟨hz, -⟩ := zero_of_info ldZero
  have C1 := Lib.hid (ledAdd_yes Ld0 Ld0.fits exE exE_fits (by decide) none 0 0 [] rfl (by decide) w (fun k b h => by simp at h))
  have HP := Lib.hid (And.intro hP hT)
  have C2 : Hid (∀ W, P10 W → T64 W → Calls Tryd.prog 11 #[.agg exL.cells.toArray, .int .i64 64] W fun e w' => e = .returned (.string ⟨#[49, 32, 48, 48, 48, 48, 48, 48, 48, 48, 48, 50, 48, 49, 48, 48, 48, 53, 32, 49, 58, 49]⟩) ∧ Below W.heap.size W w') := by
    intro W h1 h2
    have h := ledText exL exL_fits 64 W h1 h2
    rw [exL_text] at h
    exact h
  unfold Ld.val at hz
  clear hP hT
  go_enter Tryd.func10, Tryd.ntmps10
  go_wp2_with (refine wp_ldBuild0 rfl rfl ?_)
  refine C1.out.mono ?_
  rintro en w1 ⟨rfl, hb1⟩
  have HB1 := Lib.hid hb1
  clear hb1
  have hB2 := LdBox.new w1 Ld0 26
  have HB2 := Lib.hid (And.intro hB2 (HB1.out.alloc HB1.out.size (.cells Ld0.cells.toArray 26)))
  clear hB2
  unfold Ld.val
  rw [show addL Ld0 exE [] = exL from rfl]
  go_wp2_with (first | (refine wp_ldLoadG _ rfl rfl w1.heap.size rfl exL exL_fits ?lda ?_; case lda => assumption) | (refine wp_ldStore rfl _ _ rfl w1.heap.size Ld0 exL rfl rfl Ld0.fits exL_fits HB2.out.1 ?_; intro w2 hB2 hbb hoo; have hb2 := hbb _ _ HB1.out.size HB2.out.2; have hc := hB2.1.count; rw [exL_count] at hc; have hL2 := hB2.1))
  refine (C2.out _ (HP.out.1.below hb2) (HP.out.2.below hb2)).mono ?_
  rintro en w3 ⟨rfl, hb3⟩
  have HB3 := Lib.hid (hb2.trans (hb3.mono hb2.size))
  clear hb3 hb2
  go_wp2
  go_ret
  exact ⟨rfl, HB3.out⟩
end Go.Proofs.YtncmbbkcpmimjaaDoor
