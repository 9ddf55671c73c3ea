/- A clock and a membership are started. -/
import Derived.Test.YtfkfheddhnjaaaaGreatNdD
namespace Go.Proofs.YtfkfheddhnjaaaaGreat
open Go.RowKit Law
set_option linter.unusedVariables false
set_option linter.unusedSimpArgs false
set_option maxRecDepth 100000

/-- All blocks but one are as they were. -/
structure FrB (b : Nat) (w w' : World) : Prop where
  os : w'.os = w.os
  tape : w'.tape = w.tape
  output : w'.output = w.output
  size : w.heap.size ≤ w'.heap.size
  block : ∀ k, k < w.heap.size → k ≠ b → w'.heap[k]? = w.heap[k]?
theorem FrB.refl (b : Nat) (w : World) : FrB b w w := ⟨rfl, rfl, rfl, Nat.le_refl _, fun _ _ _ => rfl⟩
theorem FrB.trans {b : Nat} {u v w : World} (h : FrB b u v) (k : FrB b v w) : FrB b u w :=
  ⟨k.os.trans h.os, k.tape.trans h.tape, k.output.trans h.output, Nat.le_trans h.size k.size, fun i hi hn => (k.block i (Nat.lt_of_lt_of_le hi h.size) hn).trans (h.block i hi hn)⟩
theorem FrB.set (w : World) (b o : Nat) (v : Value) : FrB b w (w.setCell ⟨b, o, none⟩ v) := ⟨rfl, rfl, rfl, by simp, fun k _ hk => Below.heap_setCell _ _ _ k hk⟩
theorem FrB.of {b : Nat} {w w' : World} (h : Below w.heap.size w w') : FrB b w w' := ⟨h.os, h.tape, h.output, h.size, fun k hk _ => h.block k hk⟩
theorem FrB.below {b B : Nat} {w w' : World} (h : FrB b w w') (hb : B ≤ b) (hB : B ≤ w.heap.size) : Below B w w' := ⟨h.os, h.tape, h.output, h.size, fun k hk => h.block k (by omega) (by omega)⟩
def MT : Int := 1152921504606846976
set_option maxHeartbeats 1600000 in
theorem clockSet {w : World} {b : Nat} {sl x y z : Value} (h : BoxF w b [sl, x, y, z]) (ph at_ : Int) : Calls Tryz.prog 122 #[.pointer (some ⟨b, 0, none⟩), .int .i64 ph, .int .i64 at_] w fun e w' => e = .returned (.int .i64 0) ∧ BoxF w' b [sl, .int .i64 ph, .int .i64 (clampI at_ 0 1152921504606846976), z] ∧ FrB b w w' := by
  have C := fun W => spanClamp at_ 0 1152921504606846976 W
  obtain ⟨v, hv⟩ : ∃ v, clampI at_ 0 1152921504606846976 = v := ⟨_, rfl⟩
  rw [hv] at C ⊢
  have CT : ∀ W, Calls Tryz.prog 130 #[.int .i64 at_] W fun e w' => e = .returned (.int .i64 v) ∧ W = w' := fun W => by
    have C := Lib.hid (C W)
    go_enter Tryz.func130, Tryz.ntmps130
    go_wp2_with fail
    refine C.out.mono ?_
    rintro e w1 ⟨rfl, rfl⟩
    go_wp2
    go_ret
    exact ⟨rfl, rfl⟩
  have CT := Lib.hid CT
  clear C hv
  have p1 := h.put 1 (by simp) (.int .i64 ph)
  have p2 := p1.put 2 (by simp) (.int .i64 v)
  simp only [List.set_cons_succ, List.set_cons_zero] at p2
  have HF := Lib.hid (And.intro p2 ((FrB.set w b 1 (.int .i64 ph)).trans (FrB.set _ b 2 (.int .i64 v))))
  have c1 := h.1 1 _ rfl
  have c2 := h.1 2 _ rfl
  have f1 := h.2 1 (by simp)
  have f2 := h.2 2 (by simp)
  clear h p1 p2
  go_enter Tryz.func122, Tryz.ntmps122
  go_wp2_with fail
  refine (CT.out _).mono ?_
  rintro e w1 ⟨rfl, rfl⟩
  go_wp2
  go_ret
  exact ⟨rfl, HF.out⟩
theorem clockBoot {w : World} {b : Nat} {sl y z : Value} (h : BoxF w b [sl, .int .i64 0, y, z]) (at_ : Int) : Calls Tryz.prog 110 #[.pointer (some ⟨b, 0, none⟩), .int .i64 at_] w fun e w' => e = .returned (.int .i64 0) ∧ BoxF w' b [sl, .int .i64 2, .int .i64 (clampI at_ 0 1152921504606846976), z] ∧ FrB b w w' := by
  have C := Lib.hid (clockSet h 2 at_)
  have c1 := h.1 1 _ rfl
  clear h
  go_enter Tryz.func110, Tryz.ntmps110
  go_wp2_with fail
  refine C.out.mono ?_
  rintro e w1 ⟨rfl, h1, h2⟩
  have H := Lib.hid (And.intro h1 h2)
  clear h1 h2
  go_wp2
  go_ret
  exact ⟨rfl, H.out⟩
theorem joinMove {w : World} {b : Nat} {s : Int} {x y : Value} (h : BoxF w b [.int .i64 s, x, y]) (to : Int) : Calls Tryz.prog 123 #[.pointer (some ⟨b, 0, none⟩), .int .i64 s, .int .i64 to] w fun e w' => e = .returned (.int .i64 0) ∧ BoxF w' b [.int .i64 to, x, y] ∧ FrB b w w' := by
  have p1 := h.put 0 (by simp) (.int .i64 to)
  simp only [List.set_cons_zero] at p1
  have HF := Lib.hid (And.intro p1 (FrB.set w b 0 (.int .i64 to)))
  have c0 := h.1 0 _ rfl
  have f0 := h.2 0 (by simp)
  clear h p1
  go_enter Tryz.func123, Tryz.ntmps123
  go_wp2
  go_ret
  exact ⟨rfl, HF.out⟩
theorem joinBoot {w : World} {b : Nat} {x y : Value} (h : BoxF w b [.int .i64 0, x, y]) : Calls Tryz.prog 111 #[.pointer (some ⟨b, 0, none⟩)] w fun e w' => e = .returned (.int .i64 0) ∧ BoxF w' b [.int .i64 2, .int .i64 0, .int .i64 0] ∧ FrB b w w' := by
  have C := Lib.hid (joinMove h 2)
  clear h
  go_enter Tryz.func111, Tryz.ntmps111
  go_wp2_with fail
  refine C.out.mono ?_
  rintro e w1 ⟨rfl, h1, h2⟩
  have p1 := (h1.put 1 (by simp) (.int .i64 0)).put 2 (by simp) (.int .i64 0)
  simp only [List.set_cons_succ, List.set_cons_zero] at p1
  have HF := Lib.hid (And.intro p1 ((h2.trans (FrB.set w1 b 1 (.int .i64 0))).trans (FrB.set _ b 2 (.int .i64 0))))
  have c1 := h1.1 1 _ rfl
  have c2 := h1.1 2 _ rfl
  have f1 := h1.2 1 (by simp)
  have f2 := h1.2 2 (by simp)
  clear h1 h2 p1
  go_wp2
  go_ret
  exact ⟨rfl, HF.out⟩
end Go.Proofs.YtfkfheddhnjaaaaGreat
