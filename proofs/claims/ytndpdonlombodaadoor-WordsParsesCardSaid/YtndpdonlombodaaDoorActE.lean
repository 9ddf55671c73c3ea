/- script.of, script.Same. -/
import Derived.Test.YtndpdonlombodaaDoorActD
import Derived.Deep.DrawnRows
namespace Go.Proofs.YtndpdonlombodaaDoor
open Go.RowKit Law
set_option linter.unusedVariables false
set_option linter.unusedSimpArgs false

def Ac.rest (x : Ac) : List Value := [.int .i64 x.k, .int .i64 x.node, .int .i64 x.n, .int .i64 x.f.k, .int .i64 x.f.d, .int .i64 x.f.a, .int .u32 (x.f.p : Int), .int .u32 (x.f.b : Int)]
theorem scriptOf (x : Ac) (A : Option Addr) (n c : Nat) (w : World) :
    Calls Tryd.prog 46 #[.agg (x.cells A n c).toArray] w fun e w' => e = .returned (.agg x.rest.toArray) ∧ Below w.heap.size w w' := by
  obtain ⟨k, node, N, ⟨fk, fd, fa, fp, fb⟩, b⟩ := x
  unfold Ac.cells Ac.rest
  obtain ⟨hz, hsz⟩ := zero_of_info (show (Tryd.prog.info? 85).map (fun i => (i.zero, i.size)) = some (some (.agg #[.int .i64 0, .int .i64 0, .int .i64 0, .int .i64 0, .int .i64 0, .int .i64 0, .int .u32 0, .int .u32 0]), 8) by kernel_rfl)
  go_enter Tryd.func46, Tryd.ntmps46
  go_wp2
  exact bodyPost_ret (v := .agg #[.int .i64 k, .int .i64 node, .int .i64 N, .int .i64 fk, .int .i64 fd, .int .i64 fa, .int .u32 (fp : Int), .int .u32 (fb : Int)]) (by simp [results, Tryd.results46, go_sem]) rfl ⟨rfl, ((Below.refl _ _).alloc (Nat.le_refl _) _).alloc (by simp) _⟩
def restB (x y : Ac) : Bool := decide (x.k = y.k ∧ x.node = y.node ∧ x.n = y.n ∧ x.f = y.f)
theorem run_eqRest (x y : Ac) (w : World) : (binOp .eql 85 (.agg x.rest.toArray) (.agg y.rest.toArray)).run Tryd.prog w = .ok (.bool (restB x y)) w := by
  obtain ⟨k, node, N, ⟨fk, fd, fa, fp, fb⟩, b⟩ := x
  obtain ⟨k', node', N', ⟨fk', fd', fa', fp', fb'⟩, b'⟩ := y
  unfold Ac.rest restB
  go_simp
  by_cases h1 : k = k' <;> by_cases h2 : node = node' <;> by_cases h3 : N = N' <;> by_cases h4 : fk = fk' <;> by_cases h5 : fd = fd' <;> by_cases h6 : fa = fa' <;> by_cases h7 : fp = fp' <;> by_cases h8 : fb = fb' <;> simp [h1, h2, h3, h4, h5, h6, h7, h8, Int.natCast_inj]
set_option maxHeartbeats 3200000 in
set_option maxRecDepth 100000 in
theorem scriptSame (x y : Ac) (A B : Option Addr) (n m c d : Nat) (w : World) (hA : U8At w A x.b) (hn : x.b.length = n) (hB : U8At w B y.b) (hm : y.b.length = m) :
    Calls Tryd.prog 33 #[.agg (x.cells A n c).toArray, .agg (y.cells B m d).toArray] w fun e w' => e = .returned (.bool (acB x y)) ∧ Below w.heap.size w w' := by
  have hE := fun W => run_eqRest x y W
  have hO1 := fun W => scriptOf x A n c W
  have hO2 := fun W => scriptOf y B m d W
  have hR : (restB x y = true ∧ x.b = y.b) ↔ acB x y = true := by
    unfold restB acB
    rw [decide_eq_true_eq, decide_eq_true_eq]
    exact ⟨fun ⟨⟨h1, h2, h3, h4⟩, h5⟩ => by cases x; cases y; simp at *; exact ⟨h1, h2, h3, h4, h5⟩, fun h => by rw [h]; exact ⟨⟨rfl, rfl, rfl, rfl⟩, rfl⟩⟩
  obtain ⟨v, hv⟩ : ∃ v, restB x y = v := ⟨_, rfl⟩
  rw [hv] at hE hR
  obtain ⟨r, hr⟩ : ∃ r, acB x y = r := ⟨_, rfl⟩
  rw [hr] at hR ⊢
  clear hr hv
  obtain ⟨k, node, N, ⟨fk, fd, fa, fp, fb⟩, b⟩ := x
  obtain ⟨k', node', N', ⟨fk', fd', fa', fp', fb'⟩, b'⟩ := y
  unfold Ac.cells Ac.rest at hO1 hO2
  unfold Ac.rest at hE
  unfold Ac.cells
  simp only at hA hn hB hm hR hE hO1 hO2 ⊢
  have hb2 : Below w.heap.size w ((w.alloc (.cells #[.int .i64 k, .int .i64 node, .int .i64 N, .int .i64 fk, .int .i64 fd, .int .i64 fa, .int .u32 (fp : Int), .int .u32 (fb : Int), .slice A n c] 29)).alloc (.cells #[.int .i64 k', .int .i64 node', .int .i64 N', .int .i64 fk', .int .i64 fd', .int .i64 fa', .int .u32 (fp' : Int), .int .u32 (fb' : Int), .slice B m d] 29)) := ((Below.refl _ _).alloc (Nat.le_refl _) _).alloc (by simp) _
  have hA2 := hA.keep hb2
  have hB2 := hB.keep hb2
  obtain ⟨w2, hw2⟩ : ∃ w2, (w.alloc (.cells #[.int .i64 k, .int .i64 node, .int .i64 N, .int .i64 fk, .int .i64 fd, .int .i64 fa, .int .u32 (fp : Int), .int .u32 (fb : Int), .slice A n c] 29)).alloc (.cells #[.int .i64 k', .int .i64 node', .int .i64 N', .int .i64 fk', .int .i64 fd', .int .i64 fa', .int .u32 (fp' : Int), .int .u32 (fb' : Int), .slice B m d] 29) = w2 := ⟨_, rfl⟩
  have hz2 : w2.heap.size = w.heap.size + 2 := by rw [← hw2]; simp
  have c1 := fun W : Later w2 => conv_u8 (c := c) ((hw2 ▸ hA2).keep W.h) hn
  have c2 := fun W : Later w2 => conv_u8 (c := d) ((hw2 ▸ hB2).keep W.h) hm
  obtain ⟨s, hs⟩ : ∃ s : ByteArray, (⟨b.toArray⟩ : ByteArray) = s := ⟨_, rfl⟩
  obtain ⟨s', hs'⟩ : ∃ s : ByteArray, (⟨b'.toArray⟩ : ByteArray) = s := ⟨_, rfl⟩
  rw [hs] at c1
  rw [hs'] at c2
  have HSS : Hid ((s.toList == s'.toList) = decide (b = b')) := by
    unfold Hid; rw [← hs, ← hs', ByteArray.toList_eq, ByteArray.toList_eq, Bool.eq_iff_iff, beq_iff_eq, decide_eq_true_eq]
  have CB := fun W : Later w2 => Tryd.bytes_Equal_strs (.slice A n c) (.slice B m d) s s' W.val (c1 W) (c2 W)
  have cells : ∀ W : Later w2, W.val.cell? ⟨w.heap.size, 0, none⟩ = some (.int .i64 k) ∧ W.val.cell? ⟨w.heap.size, 1, none⟩ = some (.int .i64 node) ∧ W.val.cell? ⟨w.heap.size, 2, none⟩ = some (.int .i64 N) ∧ W.val.cell? ⟨w.heap.size, 3, none⟩ = some (.int .i64 fk) ∧ W.val.cell? ⟨w.heap.size, 4, none⟩ = some (.int .i64 fd) ∧ W.val.cell? ⟨w.heap.size, 5, none⟩ = some (.int .i64 fa) ∧ W.val.cell? ⟨w.heap.size, 6, none⟩ = some (.int .u32 (fp : Int)) ∧ W.val.cell? ⟨w.heap.size, 7, none⟩ = some (.int .u32 (fb : Int)) ∧ W.val.cell? ⟨w.heap.size, 8, none⟩ = some (.slice A n c) ∧ W.val.cell? ⟨w.heap.size + 1, 0, none⟩ = some (.int .i64 k') ∧ W.val.cell? ⟨w.heap.size + 1, 1, none⟩ = some (.int .i64 node') ∧ W.val.cell? ⟨w.heap.size + 1, 2, none⟩ = some (.int .i64 N') ∧ W.val.cell? ⟨w.heap.size + 1, 3, none⟩ = some (.int .i64 fk') ∧ W.val.cell? ⟨w.heap.size + 1, 4, none⟩ = some (.int .i64 fd') ∧ W.val.cell? ⟨w.heap.size + 1, 5, none⟩ = some (.int .i64 fa') ∧ W.val.cell? ⟨w.heap.size + 1, 6, none⟩ = some (.int .u32 (fp' : Int)) ∧ W.val.cell? ⟨w.heap.size + 1, 7, none⟩ = some (.int .u32 (fb' : Int)) ∧ W.val.cell? ⟨w.heap.size + 1, 8, none⟩ = some (.slice B m d) :=
    fun W => ⟨Later.cell (by rw [← hw2]; simp) W, Later.cell (by rw [← hw2]; simp) W, Later.cell (by rw [← hw2]; simp) W, Later.cell (by rw [← hw2]; simp) W, Later.cell (by rw [← hw2]; simp) W, Later.cell (by rw [← hw2]; simp) W, Later.cell (by rw [← hw2]; simp) W, Later.cell (by rw [← hw2]; simp) W, Later.cell (by rw [← hw2]; simp) W, Later.cell (by rw [← hw2]; simp) W, Later.cell (by rw [← hw2]; simp) W, Later.cell (by rw [← hw2]; simp) W, Later.cell (by rw [← hw2]; simp) W, Later.cell (by rw [← hw2]; simp) W, Later.cell (by rw [← hw2]; simp) W, Later.cell (by rw [← hw2]; simp) W, Later.cell (by rw [← hw2]; simp) W, Later.cell (by rw [← hw2]; simp) W⟩
  have HC := Lib.hid (And.intro hO1 (And.intro hO2 CB))
  have HR := Lib.hid hR
  have HB := Lib.hid (hw2 ▸ hb2)
  clear hA hB hA2 hB2 c1 c2 hn hm hb2 hs hs' CB hO1 hO2 hR
  go_enter Tryd.func33, Tryd.ntmps33
  go_wp2_with fail
  rcases v with _ | _
  · refine wp_region_later (by kernel_rfl) (by kernel_rfl) ?_
    go_big_quiet_step (fail)
    go_big_quiet_step (exact later_of (HC.out.1 _))
    go_big_quiet_step (fail)
    go_big_quiet_step (exact later_of (HC.out.2.1 _))
    repeat (go_big_quiet_step (fail))
    refine wpQuiet_nil ?_
    rintro w9 ⟨⟨W, hW⟩, rfl⟩
    clear cells
    go_wp2
    go_ret
    refine ⟨ret_bool ?_, HB.out.trans (hW.mono HB.out.size)⟩
    have := HR.out
    cases r
    · rfl
    · simp at this
  · refine wp_region_later (by kernel_rfl) (by kernel_rfl) ?_
    go_big_quiet_step (fail)
    go_big_quiet_step (exact later_of (HC.out.1 _))
    go_big_quiet_step (fail)
    go_big_quiet_step (exact later_of (HC.out.2.1 _))
    repeat (go_big_quiet_step (fail))
    go_big_quiet_step (exact later_of (below_of_same (HC.out.2.2 _)))
    repeat (go_big_quiet_step (fail))
    refine wpQuiet_nil ?_
    rintro w9 ⟨⟨W, hW⟩, rfl⟩
    clear cells
    go_wp2
    go_ret
    refine ⟨ret_bool ?_, HB.out.trans (hW.mono HB.out.size)⟩
    have := HR.out
    rw [HSS.out]
    cases r
    · rw [decide_eq_false_iff_not]; intro h; simp [h] at this
    · rw [decide_eq_true_eq]; simpa using this
theorem scriptSameV (x y : Ac) (A B : Option Addr) (n m c d : Nat) (v : Bool) (hv : acB x y = v) (w : World) (hA : U8At w A x.b) (hn : x.b.length = n) (hB : U8At w B y.b) (hm : y.b.length = m) :
    Calls Tryd.prog 33 #[.agg (x.cells A n c).toArray, .agg (y.cells B m d).toArray] w fun e w' => e = .returned (.bool v) ∧ Below w.heap.size w w' := by
  subst hv
  exact scriptSame x y A B n m c d w hA hn hB hm
end Go.Proofs.YtndpdonlombodaaDoor
