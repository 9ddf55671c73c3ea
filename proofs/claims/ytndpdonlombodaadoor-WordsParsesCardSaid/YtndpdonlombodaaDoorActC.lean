/- Acts: whether two are the same (the reference's Same). -/
import Derived.Test.YtndpdonlombodaaDoorActB
import Derived.Test.YtndpdonlombodaaDoorU8
namespace Go.Proofs.YtndpdonlombodaaDoor
open Go.RowKit Law
set_option linter.unusedVariables false
set_option linter.unusedSimpArgs false

structure Ac where
  k : Int
  node : Int
  n : Int
  f : Fa
  b : List UInt8
  deriving DecidableEq
def faB (f g : Fa) : Bool := decide (f = g)
theorem run_eqFa (f g : Fa) (w : World) : (binOp .eql 26 (.agg f.cells.toArray) (.agg g.cells.toArray)).run Tryd.prog w = .ok (.bool (faB f g)) w := by
  obtain ⟨k, d, a, p, b⟩ := f
  obtain ⟨k', d', a', p', b'⟩ := g
  unfold Fa.cells faB
  go_simp
  by_cases h1 : k = k' <;> by_cases h2 : d = d' <;> by_cases h3 : a = a' <;> by_cases h4 : p = p' <;> by_cases h5 : b = b' <;> simp [h1, h2, h3, h4, h5, Int.natCast_inj]
/-! ### the comparison as a rule of the walk -/
def faOf : Value → Option Fa
  | .agg a => match a.toList with
    | [.int .i64 k, .int .i64 d, .int .i64 x, .int .u32 p, .int .u32 b] => some ⟨k, d, x, p.toNat, b.toNat⟩
    | _ => none
  | _ => none
def IsFa (v : Value) : Prop := ∃ f : Fa, v = .agg f.cells.toArray
theorem isFa_mk (k d a : Int) (p b : Nat) : IsFa (.agg #[.int .i64 k, .int .i64 d, .int .i64 a, .int .u32 (p : Int), .int .u32 (b : Int)]) := ⟨⟨k, d, a, p, b⟩, rfl⟩
def faEq (v u : Value) : Bool := match faOf v, faOf u with
  | some f, some g => faB f g
  | _, _ => false
theorem faOf_mk (f : Fa) : faOf (.agg f.cells.toArray) = some f := by
  obtain ⟨k, d, a, p, b⟩ := f
  simp [faOf, Fa.cells]
theorem faEq_mk (k d a : Int) (p b : Nat) (k' d' a' : Int) (p' b' : Nat) : faEq (.agg #[.int .i64 k, .int .i64 d, .int .i64 a, .int .u32 (p : Int), .int .u32 (b : Int)]) (.agg #[.int .i64 k', .int .i64 d', .int .i64 a', .int .u32 (p' : Int), .int .u32 (b' : Int)]) = faB ⟨k, d, a, p, b⟩ ⟨k', d', a', p', b'⟩ := by
  have h1 := faOf_mk ⟨k, d, a, p, b⟩
  have h2 := faOf_mk ⟨k', d', a', p', b'⟩
  unfold Fa.cells at h1 h2
  unfold faEq
  rw [h1, h2]
theorem exec_eqFa {ev : Operand → Value} {x y : Operand} {dst : Option Tmp} {ty yt : TypeId} {pos : String} {after : Array Edge} {guard : Option (Nat × Bool)} {w : World} (hx : IsFa (ev x)) (hy : IsFa (ev y)) :
    (execOp ev ⟨dst, .binOp .eql 26 x y yt, ty, pos, after, guard⟩).run Tryd.prog w = .ok (.value (.bool (faEq (ev x) (ev y)))) w := by
  obtain ⟨f, hf⟩ := hx
  obtain ⟨g, hg⟩ := hy
  have h1 := run_eqFa f g w
  have h0 : ∀ (p q : Operand), (eqGuard .eql 26 p q (.agg f.cells.toArray) (.agg g.cells.toArray)).run Tryd.prog w = .ok () w := fun p q => run_eqGuard_agg (P := Tryd.prog) (w := w) .eql 26 p q _ _ (by kernel_rfl)
  have h2 : faEq (ev x) (ev y) = faB f g := by rw [hf, hg]; unfold faEq; rw [faOf_mk, faOf_mk]
  unfold execOp
  rw [h2]
  simp only [hf, hg, Sem.run_bind, h0, h1, Result.andThen_ok, Sem.run_pure]

/-! ### the reference's Same -/
def Ac.cells (x : Ac) (A : Option Addr) (n c : Nat) : List Value := [.int .i64 x.k, .int .i64 x.node, .int .i64 x.n, .int .i64 x.f.k, .int .i64 x.f.d, .int .i64 x.f.a, .int .u32 (x.f.p : Int), .int .u32 (x.f.b : Int), .slice A n c]
def acB (x y : Ac) : Bool := decide (x = y)
section
attribute [local go_sem ↓] exec_eqFa
attribute [local go_sem] isFa_mk faEq_mk
set_option maxHeartbeats 1600000 in
set_option maxRecDepth 100000 in
theorem refSame (x y : Ac) (A B : Option Addr) (n m c d : Nat) (w : World) (hA : U8At w A x.b) (hn : x.b.length = n) (hB : U8At w B y.b) (hm : y.b.length = m) :
    Calls Tryd.prog 30 #[.agg (x.cells A n c).toArray, .agg (y.cells B m d).toArray] w fun e w' => e = .returned (.bool (acB x y)) ∧ Below w.heap.size w w' := by
  obtain ⟨k, node, N, ⟨fk, fd, fa, fp, fb⟩, b⟩ := x
  obtain ⟨k', node', N', ⟨fk', fd', fa', fp', fb'⟩, b'⟩ := y
  unfold Ac.cells
  simp only at hA hn hB hm ⊢
  have hb2 : Below w.heap.size w ((w.alloc (.cells #[.int .i64 k, .int .i64 node, .int .i64 N, .int .i64 fk, .int .i64 fd, .int .i64 fa, .int .u32 (fp : Int), .int .u32 (fb : Int), .slice A n c] 29)).alloc (.cells #[.int .i64 k', .int .i64 node', .int .i64 N', .int .i64 fk', .int .i64 fd', .int .i64 fa', .int .u32 (fp' : Int), .int .u32 (fb' : Int), .slice B m d] 29)) := ((Below.refl _ _).alloc (Nat.le_refl _) _).alloc (by simp) _
  have c1 := conv_u8 (c := c) (hA.keep hb2) hn
  have c2 := conv_u8 (c := d) (hB.keep hb2) hm
  have HB := Lib.hid hb2
  obtain ⟨s, hs⟩ : ∃ s : ByteArray, (⟨b.toArray⟩ : ByteArray) = s := ⟨_, rfl⟩
  obtain ⟨s', hs'⟩ : ∃ s : ByteArray, (⟨b'.toArray⟩ : ByteArray) = s := ⟨_, rfl⟩
  rw [hs] at c1
  rw [hs'] at c2
  have HSS : Hid ((s = s') ↔ b = b') := by unfold Hid; rw [← hs, ← hs']; exact ⟨fun h => by have := congrArg (fun x : ByteArray => x.data.toList) h; simpa using this, fun h => by rw [h]⟩
  clear hA hB hn hm hb2 hs hs'
  by_cases h1 : k = k'
  · by_cases h2 : node = node'
    · by_cases h3 : N = N'
      · by_cases h4 : (⟨fk, fd, fa, fp, fb⟩ : Fa) = ⟨fk', fd', fa', fp', fb'⟩
        · have q4 : faB ⟨fk, fd, fa, fp, fb⟩ ⟨fk', fd', fa', fp', fb'⟩ = true := by unfold faB; rw [decide_eq_true_eq]; exact h4
          by_cases h5 : s = s'
          · have HG : Hid (acB ⟨k, node, N, ⟨fk, fd, fa, fp, fb⟩, b⟩ ⟨k', node', N', ⟨fk', fd', fa', fp', fb'⟩, b'⟩ = true) := by unfold Hid acB; rw [decide_eq_true_eq, h1, h2, h3, h4, HSS.out.1 h5]
            clear h4
            subst h1 h2 h3 h5
            go_enter Tryd.func30, Tryd.ntmps30
            go_wp2
            go_ret
            exact ⟨ret_bool (by rw [HG.out]), HB.out⟩
          · have HG : Hid (acB ⟨k, node, N, ⟨fk, fd, fa, fp, fb⟩, b⟩ ⟨k', node', N', ⟨fk', fd', fa', fp', fb'⟩, b'⟩ = false) := by unfold Hid acB; rw [decide_eq_false_iff_not]; intro h; exact h5 (HSS.out.2 (congrArg Ac.b h))
            have q5 : (s.toList == s'.toList) = false := beq_eq_false_iff_ne.2 (fun h => h5 (by rw [ByteArray.toList_eq, ByteArray.toList_eq] at h; exact ByteArray.ext (Array.ext' h)))
            clear h4
            subst h1 h2 h3
            go_enter Tryd.func30, Tryd.ntmps30
            go_wp2
            go_ret
            exact ⟨ret_bool (by rw [HG.out]), HB.out⟩
        · have HG : Hid (acB ⟨k, node, N, ⟨fk, fd, fa, fp, fb⟩, b⟩ ⟨k', node', N', ⟨fk', fd', fa', fp', fb'⟩, b'⟩ = false) := by unfold Hid acB; rw [decide_eq_false_iff_not]; intro h; exact h4 (congrArg Ac.f h)
          have q4 : faB ⟨fk, fd, fa, fp, fb⟩ ⟨fk', fd', fa', fp', fb'⟩ = false := by unfold faB; rw [decide_eq_false_iff_not]; exact h4
          clear h4
          subst h1 h2 h3
          go_enter Tryd.func30, Tryd.ntmps30
          go_wp2
          go_ret
          exact ⟨ret_bool (by rw [HG.out]), HB.out⟩
      · have HG : Hid (acB ⟨k, node, N, ⟨fk, fd, fa, fp, fb⟩, b⟩ ⟨k', node', N', ⟨fk', fd', fa', fp', fb'⟩, b'⟩ = false) := by unfold Hid acB; rw [decide_eq_false_iff_not]; intro h; exact h3 (congrArg Ac.n h)
        have q3 : (N == N') = false := by simpa using h3
        subst h1 h2
        go_enter Tryd.func30, Tryd.ntmps30
        go_wp2
        go_ret
        exact ⟨ret_bool (by rw [HG.out]), HB.out⟩
    · have HG : Hid (acB ⟨k, node, N, ⟨fk, fd, fa, fp, fb⟩, b⟩ ⟨k', node', N', ⟨fk', fd', fa', fp', fb'⟩, b'⟩ = false) := by unfold Hid acB; rw [decide_eq_false_iff_not]; intro h; exact h2 (congrArg Ac.node h)
      have q2 : (node == node') = false := by simpa using h2
      subst h1
      go_enter Tryd.func30, Tryd.ntmps30
      go_wp2
      go_ret
      exact ⟨ret_bool (by rw [HG.out]), HB.out⟩
  · have HG : Hid (acB ⟨k, node, N, ⟨fk, fd, fa, fp, fb⟩, b⟩ ⟨k', node', N', ⟨fk', fd', fa', fp', fb'⟩, b'⟩ = false) := by unfold Hid acB; rw [decide_eq_false_iff_not]; intro h; exact h1 (congrArg Ac.k h)
    have q1 : (k == k') = false := by simpa using h1
    go_enter Tryd.func30, Tryd.ntmps30
    go_wp2
    go_ret
    exact ⟨ret_bool (by rw [HG.out]), HB.out⟩
end
end Go.Proofs.YtndpdonlombodaaDoor
