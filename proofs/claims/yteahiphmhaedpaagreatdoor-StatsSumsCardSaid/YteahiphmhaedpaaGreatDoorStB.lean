/- stats: members, counts of events, windows' beginnings, logs' parts. -/
import Derived.Test.YteahiphmhaedpaaGreatDoorStA
import Derived.Test.YteahiphmhaedpaaGreatDoorCfD
import Derived.Lib.MinMax
namespace Go.Proofs.YteahiphmhaedpaaGreatDoor
open Go.RowKit Law
set_option linter.unusedVariables false
set_option linter.unusedSimpArgs false
set_option maxRecDepth 100000

theorem stOne {w : World} {B k : Nat} {cs : List Value} (h : BoxF w B cs) {x : Int} (hk : cs[k]? = some (.int .i64 x)) (hx : 0 ≤ x ∧ x ≤ 1000000) (bb : Bool) (base : Nat) (hB : base ≤ B) (hbs : base ≤ w.heap.size) :
    Calls Tryz.prog 34 #[.pointer (some ⟨B, k, none⟩), .bool bb] w fun e w' => e = .returned (.tuple #[]) ∧ BoxF w' B (cs.set k (.int .i64 (if bb then x + 1 else x))) ∧ w'.heap.size = w.heap.size ∧ FrB B w w' := by
  have c0 := h.1 k _ hk
  have hkl : k < cs.length := (List.getElem?_eq_some_iff.1 hk).1
  have f0 := h.2 k hkl
  have hw : IntKind.i64.wrap (x + 1) = x + 1 := by rw [IntKind.wrap_i64]; omega
  cases bb with
  | false =>
    have hs : cs.set k (.int .i64 x) = cs := by
      apply List.ext_getElem?
      intro j
      by_cases e : j = k
      · subst e; rw [List.getElem?_set_self hkl, hk]
      · rw [List.getElem?_set_ne (Ne.symm e)]
    have H := Lib.hid h
    have HS := Lib.hid hs
    clear h hs hk
    go_enter Tryz.func34, Tryz.ntmps34
    go_wp2
    go_end0
    exact ⟨rfl, by show BoxF w B (cs.set k (.int .i64 x)); rw [HS.out]; exact H.out, rfl, FrB.of (Below.refl _ _)⟩
  | true =>
    have HF : Hid (BoxF (w.setCell ⟨B, k, none⟩ (.int .i64 (x + 1))) B (cs.set k (.int .i64 (x + 1))) ∧ FrB B w (w.setCell ⟨B, k, none⟩ (.int .i64 (x + 1)))) := ⟨h.put k hkl _, FrB.set _ _ _ _⟩
    clear h hk
    go_enter Tryz.func34, Tryz.ntmps34
    go_wp2
    go_end0
    exact ⟨rfl, HF.out.1, by simp, HF.out.2⟩
theorem traceCount0 (kd : Int) (w : World) : Calls Tryz.prog 40 #[.slice none 0 0, .int .i64 kd] w fun e w' => e = .returned (.int .i64 0) ∧ w = w' := by
  go_enter Tryz.func40, Tryz.ntmps40
  go_wp2
  go_loop [5, 10] (fun s i => i = .int .i64 0 ∧ s = .int .i64 0) (fun _ _ => 0)
  case atStart => exact ⟨rfl, rfl⟩
  case round =>
    obtain ⟨rfl, rfl⟩ := hrel
    go_wp2
    go_ret
    exact ⟨rfl, rfl⟩
theorem worldMemberT {w : World} {base W : Nat} {c : Cn} {A : Option Addr} {l k : Nat} {t : Int} {R cap : Nat} {ps : List PlV} {air : Nat} {ev : Value} {cr : Int} (h : WdAt w base W c A l k t R cap ps air ev cr) {i : Nat} {p : PlV} {n : NdI} (hp : ps[i]? = some p) (hn : p.nd = some n) : Calls Tryz.prog 38 #[.pointer (some ⟨W, 0, none⟩), .int .i64 (i : Int)] w fun en w' => en = .returned (.bool true) ∧ w = w' := by
  have C := Lib.hid (worldStateT h hp hn)
  clear h hp hn
  go_enter Tryz.func38, Tryz.ntmps38
  go_wp2_with fail
  refine C.out.mono ?_
  rintro e w' ⟨rfl, rfl⟩
  go_wp2
  go_ret
  exact ⟨rfl, rfl⟩
end Go.Proofs.YteahiphmhaedpaaGreatDoor
