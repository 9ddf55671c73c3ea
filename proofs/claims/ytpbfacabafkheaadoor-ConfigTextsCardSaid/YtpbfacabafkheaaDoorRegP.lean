/- A REGION THAT DRAWS ITS ORDER, PHASE BY PHASE: in each phase those operations that only read are taken first, wherever they stand, then the others in every order that is left; what comes behind waits for all of the phase. -/
import Derived.Test.YtpbfacabafkheaaDoorBase
namespace Go.Proofs.YtpbfacabafkheaaDoor
open Go Go.RowKit Law
set_option linter.unusedVariables false
set_option linter.unusedSimpArgs false

section
variable {P : Program} {ops : Array Oper} {Q : Exit → Act → World → Prop} {md : Region.Mode} {S : World → Prop}
/-- t waits for i, by so many steps at most. -/
def reachB (md : Region.Mode) (ops : Array Oper) : Nat → Nat → Nat → Bool
  | 0, _, _ => false
  | f + 1, t, i => Region.waitsFor md ops t i || (List.range ops.size).any fun k => decide (k < t) && (Region.waitsFor md ops t k && reachB md ops f k i)
/-- What stands from n on waits for each of those ahead of n. -/
def transB (md : Region.Mode) (ops : Array Oper) (d n : Nat) : Bool :=
  (List.range ops.size).all fun t => decide (t < n) || (List.range n).all fun i => reachB md ops d t i
theorem waits_of {md : Region.Mode} {ops : Array Oper} {t i : Nat} (h : Region.waitsFor md ops t i = true) : ∃ o, ops[t]? = some o ∧ ∃ e ∈ o.after, Region.binds md e = true ∧ e.on = i := by
  unfold Region.waitsFor at h
  cases ho : ops[t]? with
  | none => simp [ho] at h
  | some o =>
    simp only [ho, Option.map_some, Option.getD_some] at h
    obtain ⟨e, he, hb⟩ := Array.any_eq_true'.1 h
    simp only [Bool.and_eq_true, beq_iff_eq] at hb
    exact ⟨o, rfl, e, he, hb.1, hb.2⟩
theorem reach_listed {n : Nat} {listed : Array Bool} (inv : HeadInv md ops n listed) : ∀ (d t i : Nat), reachB md ops d t i = true → (∀ o, ops[t]? = some o → ∀ e ∈ o.after, Region.binds md e = true → listed.getD e.on false = true) → listed.getD i false = true
  | 0, _, _, h, _ => by simp [reachB] at h
  | d + 1, t, i, h, hall => by
    unfold reachB at h
    simp only [Bool.or_eq_true] at h
    rcases h with h | h
    · obtain ⟨o, ho, e, he, hb, heq⟩ := waits_of h
      rw [← heq]
      exact hall o ho e he hb
    · obtain ⟨k, _, h⟩ := List.any_eq_true.1 h
      simp only [Bool.and_eq_true] at h
      obtain ⟨o, ho, e, he, hb, heq⟩ := waits_of h.2.1
      have hk := hall o ho e he hb
      rw [heq] at hk
      exact reach_listed inv d k i h.2.2 (fun ok hok e2 he2 hb2 => inv.closed k ok hok hk e2 he2 hb2)
theorem trans_tail {d n : Nat} (ht : transB md ops d n = true) {listed : Array Bool} (inv : HeadInv md ops n listed) {i : Nat} (hin : i < n) (hun : listed.getD i true = false) {j : Nat} (hj : j ∈ Region.ready md ops listed) : j < n := by
  rcases Nat.lt_or_ge j n with h | h
  · exact h
  · exfalso
    obtain ⟨hjun, oj, hoj, hall⟩ := mem_ready.1 hj
    have hjs : j < ops.size := (Array.getElem?_eq_some_iff.1 hoj).1
    have hb := List.all_eq_true.1 ht j (List.mem_range.2 hjs)
    simp only [Bool.or_eq_true, decide_eq_true_eq] at hb
    rcases hb with hb | hb
    · omega
    · have h1 := reach_listed inv d j i (List.all_eq_true.1 hb i (List.mem_range.2 hin)) (fun o ho e he hbi => by
        rw [hoj] at ho
        cases ho
        exact hall e he hbi)
      rw [getD_both hun] at h1
      cases h1
theorem wpAnyT_first2 {d n i : Nat} {oi : Oper} {v : Value} {L : Array Bool → Act → World → Prop} (hi : ops[i]? = some oi) (hsel : ∀ (j : Nat) (o : Oper) cs b, ops[j]? = some o → o.op ≠ .select cs b)
    (hQ : ∀ c a w, Q (.panic c) (a.put oi.dst v) w → Q (.panic c) a w) (ht : transB md ops d n = true) (hin : i < n)
    (hdone : ∀ listed a w, L listed a w → ∀ j ∈ Region.ready md ops listed, n ≤ j) :
    ∀ (f : Nat) (listed : Array Bool) (a : Act) (w : World), HeadInv md ops n listed →
      (∀ j oj, ops[j]? = some oj → j ≠ i → listed.getD j true = false → (∀ e ∈ oj.after, Region.binds md e = true → e.on ≠ i) → oi.apart ops oj = true) →
      i ∈ Region.ready md ops listed → YieldsIf P ops S oi v a → S w →
      wpAnyT P md ops Q S n L f (listed.setIfInBounds i true) (a.put oi.dst v) w → wpAnyT P md ops Q S n L (f + 1) listed a w := by
  intro f
  induction f with
  | zero =>
    intro listed a w inv _ hr hy hS H
    have hun := (mem_ready.1 hr).1
    refine ⟨fun h => (by rw [h] at hr; cases hr), fun j hj => ?_⟩
    have hjn : j < n := trans_tail ht inv hin hun hj
    refine ⟨hjn, ?_⟩
    by_cases hji : j = i
    · subst hji; exact hy.wpOp hi hS ⟨hS, H⟩
    · have := hdone _ _ _ H j (ready_mono hj hji)
      omega
  | succ f ih =>
    intro listed a w inv hfree hr hy hS H
    have hun := (mem_ready.1 hr).1
    refine ⟨fun h => (by rw [h] at hr; cases hr), fun j hj => ?_⟩
    have hjn : j < n := trans_tail ht inv hin hun hj
    refine ⟨hjn, ?_⟩
    by_cases hji : j = i
    · subst hji; exact hy.wpOp hi hS ⟨hS, H⟩
    · have h1 := (H.2 j (ready_mono hj hji)).2
      obtain ⟨hjun, oj, hoj, hall⟩ := mem_ready.1 hj
      have hnot : ∀ e ∈ oj.after, Region.binds md e = true → e.on ≠ i := fun e he hb heq => by
        have h1 := hall e he hb
        rw [heq, getD_both hun] at h1
        cases h1
      have h2 := wpOp_putIf hoj (hfree j oj hoj hji hjun hnot) (fun cs b => hsel i oi cs b hi) (fun cs b => hsel j oj cs b hoj) hQ hy h1
      have hfree' : ∀ k ok, ops[k]? = some ok → k ≠ i → (listed.setIfInBounds j true).getD k true = false →
          (∀ e ∈ ok.after, Region.binds md e = true → e.on ≠ i) → oi.apart ops ok = true := fun k ok hk hki hun hno => by
        refine hfree k ok hk hki ?_ hno
        by_cases hjk : j = k
        · subst hjk; exact hjun
        · rw [getD_set_ne true hjk] at hun; exact hun
      refine wpOp_mono (fun a' w' h3 => ⟨h3.2.1, ih (listed.setIfInBounds j true) a' w' (inv.set hj hjn) hfree' (ready_mono hr (Ne.symm hji)) h3.1 h3.2.1 ?_⟩) h2
      rw [Array.setIfInBounds_comm _ _ hji]
      exact h3.2.2
def invB (md : Region.Mode) (ops : Array Oper) (n : Nat) (listed : Array Bool) : Bool :=
  decide (listed.size = ops.size) && (((List.range ops.size).all fun j => !listed.getD j false || ((ops[j]?).map fun o => o.after.all fun e => !Region.binds md e || listed.getD e.on false).getD true) && (List.range ops.size).all fun t => decide (t < n) || !listed.getD t true)
theorem inv_of {n : Nat} {listed : Array Bool} (h : invB md ops n listed = true) : HeadInv md ops n listed := by
  simp only [invB, Bool.and_eq_true, decide_eq_true_eq] at h
  obtain ⟨h1, h2, h3⟩ := h
  refine ⟨h1, fun j oj hoj hl e he hb => ?_, fun t hn ht => ?_⟩
  · have hjs : j < ops.size := (Array.getElem?_eq_some_iff.1 hoj).1
    have h := List.all_eq_true.1 h2 j (List.mem_range.2 hjs)
    rw [hl, hoj] at h
    simp only [Bool.not_true, Bool.false_or, Option.map_some, Option.getD_some] at h
    have := Array.all_eq_true_iff_forall_mem.1 h e he
    rw [hb] at this
    simpa using this
  · have h := List.all_eq_true.1 h3 t (List.mem_range.2 ht)
    simp only [Bool.or_eq_true, decide_eq_true_eq, Bool.not_eq_true'] at h
    rcases h with h | h
    · omega
    · exact h
/-- What holds when all ahead of n are done. -/
def DoneAt (P : Program) (md : Region.Mode) (ops : Array Oper) (Q : Exit → Act → World → Prop) (n g : Nat) (listed : Array Bool) (a : Act) (w : World) : Prop :=
  ((Region.ready md ops listed).all fun j => decide (n ≤ j)) = true ∧ wpAny P md ops Q g listed a w
variable {n g : Nat}
theorem T_done {listed : Array Bool} {a : Act} {w : World} (hB : ((Region.ready md ops listed).all fun j => decide (n ≤ j)) = true) (h : wpAny P md ops Q g listed a w) : wpAnyT P md ops Q S n (DoneAt P md ops Q n g) 0 listed a w := ⟨hB, h⟩
/-- Operation i only reads: it is taken first. -/
theorem T_first {listed : Array Bool} {a : Act} {w : World} {o : Oper} {f : Nat} (i d : Nat) (v : Value) (h0 : ops[i]? = some o) (hB1 : Hid (Region.noSelect ops = true)) (hB2 : Hid (transB md ops d n = true)) (hB3 : invB md ops n listed = true)
    (hB4 : (decide (i < n) && ((Region.ready md ops listed).contains i && Region.free md ops listed i)) = true)
    (hQ : ∀ c a t v w, Q (.panic c) (a.put (some t) v) w → Q (.panic c) a w) (hS : S w) (hw : Region.wanted o (yielded ops a.tmps) = true) (hv : ∀ w, S w → (execOp a.eval o).run P w = .ok (.value v) w)
    (h : wpAnyT P md ops Q S n (DoneAt P md ops Q n g) f (listed.setIfInBounds i true) (a.put o.dst v) w) : wpAnyT P md ops Q S n (DoneAt P md ops Q n g) (f + 1) listed a w := by
  simp only [Bool.and_eq_true, decide_eq_true_eq] at hB4
  obtain ⟨hin, hr, hf⟩ := hB4
  have hr' : i ∈ Region.ready md ops listed := by simpa using hr
  exact wpAnyT_first2 h0 (Region.noSelect_spec hB1.out) (fun c a w h => by cases hd : o.dst with | none => rw [hd] at h; exact h | some t => rw [hd] at h; exact hQ c a t _ w h) hB2.out hin (fun listed' a' w' hL j hj => by simpa using List.all_eq_true.1 hL.1 j hj) f listed a w (inv_of hB3) (Region.free_spec h0 hf) hr' (.inl ⟨hw, hv⟩) hS h
theorem T_one {f i : Nat} {listed : Array Bool} {a : Act} {w : World} {o : Oper}
    (hr : Region.ready md ops listed = [i]) (h0 : ops[i]? = some o) (hin : i < n) (h : if Region.wanted o (yielded ops a.tmps) = true then Oper.wp P o a w (fun a' w' => S w' ∧ wpAnyT P md ops Q S n (DoneAt P md ops Q n g) f (listed.setIfInBounds i true) a' w') Q else False) : wpAnyT P md ops Q S n (DoneAt P md ops Q n g) (f + 1) listed a w := by
  refine ⟨fun e => (by rw [hr] at e; cases e), fun j hj => ?_⟩
  rw [hr] at hj
  obtain rfl : j = i := by simpa using hj
  refine ⟨hin, ?_⟩
  unfold wpOp
  simp only [h0]
  split
  · rename_i hw; rw [if_pos hw] at h; exact .inl h
  · rename_i hw; rw [if_neg hw] at h; exact h.elim
theorem T_two {f i k : Nat} {listed : Array Bool} {a : Act} {w : World} {o p : Oper}
    (hr : Region.ready md ops listed = [i, k]) (h0 : ops[i]? = some o) (h1 : ops[k]? = some p) (hin : i < n) (hkn : k < n) (h : if Region.wanted o (yielded ops a.tmps) = true then Oper.wp P o a w (fun a' w' => S w' ∧ wpAnyT P md ops Q S n (DoneAt P md ops Q n g) f (listed.setIfInBounds i true) a' w') Q else False)
    (h' : if Region.wanted p (yielded ops a.tmps) = true then Oper.wp P p a w (fun a' w' => S w' ∧ wpAnyT P md ops Q S n (DoneAt P md ops Q n g) f (listed.setIfInBounds k true) a' w') Q else False) : wpAnyT P md ops Q S n (DoneAt P md ops Q n g) (f + 1) listed a w := by
  refine ⟨fun e => (by rw [hr] at e; cases e), fun j hj => ?_⟩
  rw [hr] at hj
  rcases (show j = i ∨ j = k by simpa using hj) with rfl | rfl
  · refine ⟨hin, ?_⟩
    unfold wpOp
    simp only [h0]
    split
    · rename_i hw; rw [if_pos hw] at h; exact .inl h
    · rename_i hw; rw [if_neg hw] at h; exact h.elim
  · refine ⟨hkn, ?_⟩
    unfold wpOp
    simp only [h1]
    split
    · rename_i hw; rw [if_pos hw] at h'; exact .inl h'
    · rename_i hw; rw [if_neg hw] at h'; exact h'.elim
/-- What is left comes in one order. -/
theorem wpAny_seq {g : Nat} {listed : Array Bool} {a : Act} {w : World} (k : Nat) {l : List Oper} (hB : Region.seqB md ops g k listed = true) (hg : ops.size = k + g) (hl : ops.toList.drop k = l) (h : wpList P ops Q l a w) : wpAny P md ops Q g listed a w := by
  subst hl
  have hlen : (ops.toList.drop k).length = g := by simp; omega
  have := wpAny_of_seq (P := P) (ops := ops) (md := md) (Q' := Q) (ops.toList.drop k) k listed a w (fun j => by simp [List.getElem?_drop]) (by rw [hlen]; exact hB) h
  rwa [hlen] at this
end
/-- The region: f operations stand ahead of n, g behind. -/
theorem wp_region_phase {P : Program} {id : Nat} {Q : Exit → Act → World → Prop} {a : Act} {w : World} {l : List Oper} (n g : Nat) (S : World → Prop) (hm : P.follows .mixedOrders = true) (hz : l.length = n + g)
    (d : Nat) (hNS : Region.noSelect l.toArray = true) (hTB : transB .any l.toArray d n = true)
    (h : Hid (Region.noSelect l.toArray = true) → Hid (transB .any l.toArray d n = true) → wpAnyT P .any l.toArray Q S n (DoneAt P .any l.toArray Q n g) n (Array.replicate l.toArray.size false) a w.drew) : (Code.region id l.toArray true).wp P Q a w := by
  refine wp_region_any hm ?_
  have := wpAny_of_T (g := g) (fun listed a' w' hL => hL.2) _ _ _ _ (h hNS hTB)
  rw [← hz] at this
  simpa using this
end Go.Proofs.YtpbfacabafkheaaDoor
