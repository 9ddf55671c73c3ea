/- key.Compare and the closure of key.Sort, with what they leave: new blocks and draws alone. -/
import Derived.Test.YtlkajpmfcibagaaDoorKeySo
import Derived.Sort.Grow
import Derived.Shelf.SlSortCmp.Insertion
namespace Go.Proofs.YtlkajpmfcibagaaDoor
open Go.RowKit Law Go.Sort
set_option linter.unusedVariables false

/-- New blocks and draws alone. -/
def GrowsTo (w w' : World) : Prop := ∃ q os, w' = grow (w.drewN q) os
theorem GrowsTo.refl (w : World) : GrowsTo w w := ⟨0, #[], by rw [grow_empty]; rfl⟩
theorem GrowsTo.alloc {w w' : World} (h : GrowsTo w w') (o : Obj) : GrowsTo w (w'.alloc o) := by
  obtain ⟨q, os, rfl⟩ := h
  exact ⟨q, os ++ #[o], by rw [alloc_eq_grow, grow_grow]⟩
theorem GrowsTo.trans {a b c : World} (h : GrowsTo a b) (h' : GrowsTo b c) : GrowsTo a c := by
  obtain ⟨q, os, rfl⟩ := h
  obtain ⟨q', os', rfl⟩ := h'
  refine ⟨q + q', os ++ os', ?_⟩
  show grow (grow ((a.drewN q).drewN q') os) os' = _
  rw [grow_grow, World.drewN_drewN]
theorem GrowsTo.cell {w w' : World} (h : GrowsTo w w') {a : Addr} {v : Value} (hc : w.cell? a = some v) : w'.cell? a = some v := by
  obtain ⟨q, os, rfl⟩ := h
  rw [cell?_grow (w.drewN q) os a (show a.block < w.heap.size from World.block_lt_of_cell? _ _ hc)]
  exact hc
theorem GrowsTo.size {w w' : World} (h : GrowsTo w w') : w.heap.size ≤ w'.heap.size := by
  obtain ⟨q, os, rfl⟩ := h
  simp [grow]
structure Grows (w : World) where
  val : World
  h : GrowsTo w val
instance (w : World) : Nonempty (Grows w) := ⟨⟨w, GrowsTo.refl w⟩⟩
theorem grows_of_same {P : Program} {f : FuncId} {args : Array Value} {w : World} {W : Grows w} {v : Value}
    (h : Calls P f args W.val fun e w' => e = .returned v ∧ w' = W.val) : Calls P f args W.val fun e w'' => e = .returned v ∧ ∃ W' : Grows w, w'' = W'.val :=
  h.mono fun _ _ ⟨he, hb⟩ => ⟨he, W, hb⟩
theorem wp_region_grows_tail {P : Program} {id : Nat} {Q : Exit → Act → World → Prop} {a : Act} {w : World} {l : List Oper} (n : Nat) (hm : P.follows .mixedOrders = true) (hB : Region.lexTailB .any l.toArray n = true)
    (h : wpQuiet P l.toArray (fun w' => ∃ W : Grows w, w' = W.val) (fun a' => ∀ W : Grows w, wpList P l.toArray Q (l.drop n) a' W.val) (l.take n) a) : (Code.region id l.toArray true).wp P Q a w := by
  simp only [Region.lexTailB, Bool.and_eq_true, decide_eq_true_eq] at hB
  obtain ⟨⟨⟨⟨hsel, hn⟩, hs⟩, hc⟩, hlex⟩ := hB
  have hn' : n < l.length := by simpa using hn
  have htl : (l.take n).length = n := by simp; omega
  have hdl : (l.drop n).length = l.toArray.size - n := by simp
  have inv0 : HeadInv .any l.toArray n (Array.replicate l.toArray.size false) :=
    ⟨by simp, fun j oj _ hl => (by rw [getD_replicate_false] at hl; cases hl), fun t _ ht => getD_in (by simpa using ht) (getD_replicate_false _ _)⟩
  have H := wpAnyQL_lex (md := .any) (g := l.toArray.size - n) hsel hs hc hn (l.take n) 0 _ a (fun j hj => by
    have hj' : j < n := by rw [htl] at hj; exact hj
    simp [hj']) (by simpa using htl) inv0 (by rw [htl]; exact hlex) h
  refine wp_region_any hm ?_
  have := wpAny_of_headQ (Q' := Q) (g := l.toArray.size - n) (fun listed a' w' hw' hL => by
    obtain ⟨W, rfl⟩ := hw'
    have := wpAny_of_seq (md := .any) (Q' := Q) (l.drop n) n listed a' W.val (fun j => by simp [List.getElem?_drop]) (by rw [hdl]; exact hL.1) (hL.2 W)
    rwa [hdl] at this) _ _ _ { w with drawn := w.drawn + 1 } ⟨⟨_, 1, #[], by rw [grow_empty]; rfl⟩, rfl⟩ H
  rw [htl, show n + (l.toArray.size - n) = l.toArray.size by omega] at this
  exact this

theorem keyCompareG (a b : K) (w : World) : Calls Tryd.prog 10 #[.agg #[.int .i64 a.t, .int .i64 a.f, .int .u32 a.s], .agg #[.int .i64 b.t, .int .i64 b.f, .int .u32 b.s]] w fun e w' => e = .returned (.int .i64 (cmpK a b)) ∧ GrowsTo w w' := by
  go_enter Tryd.func10, Tryd.ntmps10
  go_wp2_with fail
  have c1 : ∀ W : Grows ((w.alloc (.cells #[.int .i64 a.t, .int .i64 a.f, .int .u32 a.s] 24)).alloc (.cells #[.int .i64 b.t, .int .i64 b.f, .int .u32 b.s] 24)),
    W.val.cell? ⟨w.heap.size, 0, none⟩ = some (.int .i64 a.t) ∧ W.val.cell? ⟨w.heap.size, 1, none⟩ = some (.int .i64 a.f) ∧ W.val.cell? ⟨w.heap.size, 2, none⟩ = some (.int .u32 a.s) ∧
    W.val.cell? ⟨w.heap.size + 1, 0, none⟩ = some (.int .i64 b.t) ∧ W.val.cell? ⟨w.heap.size + 1, 1, none⟩ = some (.int .i64 b.f) ∧ W.val.cell? ⟨w.heap.size + 1, 2, none⟩ = some (.int .u32 b.s) :=
    fun W => ⟨W.h.cell (by simp), W.h.cell (by simp), W.h.cell (by simp), W.h.cell (by simp), W.h.cell (by simp), W.h.cell (by simp)⟩
  refine wp_region_grows_tail 15 (by kernel_rfl) (by kernel_rfl) ?_
  simp only [List.take_succ_cons, List.take_zero, List.drop_succ_cons, List.drop_zero]
  repeat (go_big_quiet_step (first | exact grows_of_same (cmpCompare_i64 _ _ _) | exact grows_of_same (cmpCompare_int _ _ _) | exact grows_of_same (cmpCompare_u32 _ _ _)))
  refine wpQuiet_nil ?_
  rintro ⟨W, hW⟩
  dsimp only
  clear c1
  have hb : GrowsTo w W := (((GrowsTo.refl w).alloc _).alloc _).trans hW
  clear hW
  go_wp2_with (go_at_call 25; refine (cmpOr_int _ _ (cmpI a.t b.t) (cmpI a.f b.f) (cmpI a.s b.s) _ (by simp) (by simp) (by simp)).mono ?_; rintro e w' ⟨rfl, rfl⟩)
  go_ret
  exact ⟨rfl, hb.alloc _⟩
theorem sortClosure (a b : K) (w : World) : Calls Tryd.prog 36 #[.agg #[.int .i64 a.t, .int .i64 a.f, .int .u32 a.s], .agg #[.int .i64 b.t, .int .i64 b.f, .int .u32 b.s]] w fun e w' => e = .returned (.int .i64 (cmpK a b)) ∧ GrowsTo w w' := by
  go_enter Tryd.func36, Tryd.ntmps36
  go_wp2_with fail
  refine (keyCompareG a b _).mono ?_
  rintro e w1 ⟨rfl, hb⟩
  have hb1 : GrowsTo w w1 := (((GrowsTo.refl w).alloc _).alloc _).trans hb
  clear hb
  go_wp2_with fail
  go_ret
  exact ⟨rfl, hb1⟩
instance : Inhabited K := ⟨k0⟩
theorem swoK : SWO (ltOf cmpK) where
  irrefl x := by
    unfold ltOf
    rw [decide_eq_false_iff_not, cmpK_neg]
    exact ltK_irrefl x
  trans x y z h1 h2 := by
    unfold ltOf at *
    rw [decide_eq_true_eq, cmpK_neg] at *
    exact ltK_trans h1 h2
  ntrans x y z h1 h2 := by
    unfold ltOf at *
    rw [decide_eq_false_iff_not, cmpK_neg] at *
    unfold ltK at *
    omega
end Go.Proofs.YtlkajpmfcibagaaDoor
