/- A REGION THAT DRAWS ITS ORDER, PHASE BY PHASE (pre: operations that read nothing, such as moves, are taken ahead of all): in each phase those operations that only read are taken first, wherever they stand, then the others in every order that is left; what comes behind waits for all of the phase. -/
import Derived.Test.YtfkfheddhnjaaaaGreatRegT
import Derived.Test.YtfkfheddhnjaaaaGreatLaw
namespace Go.Proofs.YtfkfheddhnjaaaaGreat
open Go Go.RowKit Law
set_option linter.unusedVariables false
set_option linter.unusedSimpArgs false

section
variable {P : Program} {ops : Array Oper} {Q : Exit → Act → World → Prop} {md : Region.Mode} {S : World → Prop}
/-- t waits for i, by so many steps at most. -/
def reachB (md : Region.Mode) (ops : Array Oper) : Nat → Nat → Nat → Bool
  | 0, _, _ => false
  | f + 1, t, i => Region.waitsFor md ops t i || (List.range ops.size).any fun k => decide (k < t) && (Region.waitsFor md ops t k && reachB md ops f k i)
/-- What stands from n on waits for each of those ahead of n. -/
def transB (md : Region.Mode) (ops : Array Oper) (d n : Nat) (pre : List Nat) : Bool :=
  (List.range ops.size).all fun t => decide (t < n) || (pre.contains t || (List.range n).all fun i => pre.contains i || reachB md ops d t i)
/-- Those ahead of all are done. -/
def PreIn (pre : List Nat) (listed : Array Bool) : Prop := ∀ i ∈ pre, listed.getD i true = true
theorem waits_of {md : Region.Mode} {ops : Array Oper} {t i : Nat} (h : Region.waitsFor md ops t i = true) : ∃ o, ops[t]? = some o ∧ ∃ e ∈ o.after, Region.binds md e = true ∧ e.on = i := by
  unfold Region.waitsFor at h
  cases ho : ops[t]? with
  | none => simp [ho] at h
  | some o =>
    simp only [ho, Option.map_some, Option.getD_some] at h
    obtain ⟨e, he, hb⟩ := Array.any_eq_true'.1 h
    simp only [Bool.and_eq_true, beq_iff_eq] at hb
    exact ⟨o, rfl, e, he, hb.1, hb.2⟩
theorem reach_listed {n : Nat} {listed : Array Bool} (inv : HeadInv md ops n listed) : ∀ (d t i : Nat), reachB md ops d t i = true → (∀ o, ops[t]? = some o → ∀ e ∈ o.after, Region.binds md e = true → listed.getD e.on false = true) → listed.getD i false = true
  | 0, _, _, h, _ => by simp [reachB] at h
  | d + 1, t, i, h, hall => by
    unfold reachB at h
    simp only [Bool.or_eq_true] at h
    rcases h with h | h
    · obtain ⟨o, ho, e, he, hb, heq⟩ := waits_of h
      rw [← heq]
      exact hall o ho e he hb
    · obtain ⟨k, _, h⟩ := List.any_eq_true.1 h
      simp only [Bool.and_eq_true] at h
      obtain ⟨o, ho, e, he, hb, heq⟩ := waits_of h.2.1
      have hk := hall o ho e he hb
      rw [heq] at hk
      exact reach_listed inv d k i h.2.2 (fun ok hok e2 he2 hb2 => inv.closed k ok hok hk e2 he2 hb2)
theorem PreIn.set {pre : List Nat} {listed : Array Bool} (h : PreIn pre listed) (j : Nat) : PreIn pre (listed.setIfInBounds j true) := fun i hi => by
  by_cases hij : j = i
  · subst hij
    have h1 := h j hi
    by_cases hs : j < listed.size
    · simp [Array.getD, hs]
    · simp [Array.getD, hs]
  · rw [getD_set_ne true hij]
    exact h i hi
theorem trans_tail {d n : Nat} {pre : List Nat} (ht : transB md ops d n pre = true) {listed : Array Bool} (inv : HeadInv md ops n listed) (hp : PreIn pre listed) {i : Nat} (hin : i < n) (hun : listed.getD i true = false) {j : Nat} (hj : j ∈ Region.ready md ops listed) : j < n := by
  rcases Nat.lt_or_ge j n with h | h
  · exact h
  · exfalso
    obtain ⟨hjun, oj, hoj, hall⟩ := mem_ready.1 hj
    have hjs : j < ops.size := (Array.getElem?_eq_some_iff.1 hoj).1
    have hb := List.all_eq_true.1 ht j (List.mem_range.2 hjs)
    simp only [Bool.or_eq_true, decide_eq_true_eq] at hb
    rcases hb with hb | hb | hb
    · omega
    · have := hp j (by simpa using hb)
      rw [this] at hjun
      cases hjun
    · have hb' := List.all_eq_true.1 hb i (List.mem_range.2 hin)
      simp only [Bool.or_eq_true] at hb'
      rcases hb' with hb' | hb'
      · have := hp i (by simpa using hb')
        rw [this] at hun
        cases hun
      have h1 := reach_listed inv d j i hb' (fun o ho e he hbi => by
        rw [hoj] at ho
        cases ho
        exact hall e he hbi)
      rw [getD_both hun] at h1
      cases h1
theorem wpAnyT_first2 {d n i : Nat} {pre : List Nat} {oi : Oper} {v : Value} {L : Array Bool → Act → World → Prop} (hi : ops[i]? = some oi) (hsel : ∀ (j : Nat) (o : Oper) cs b, ops[j]? = some o → o.op ≠ .select cs b)
    (hQ : ∀ c a w, Q (.panic c) (a.put oi.dst v) w → Q (.panic c) a w) (ht : transB md ops d n pre = true) (hin : i < n)
    (hdone : ∀ listed a w, L listed a w → ∀ j ∈ Region.ready md ops listed, n ≤ j) :
    ∀ (f : Nat) (listed : Array Bool) (a : Act) (w : World), HeadInv md ops n listed → PreIn pre listed →
      (∀ j oj, ops[j]? = some oj → j ≠ i → listed.getD j true = false → (∀ e ∈ oj.after, Region.binds md e = true → e.on ≠ i) → oi.apart ops oj = true) →
      i ∈ Region.ready md ops listed → YieldsIf P ops S oi v a → S w →
      wpAnyT P md ops Q S n L f (listed.setIfInBounds i true) (a.put oi.dst v) w → wpAnyT P md ops Q S n L (f + 1) listed a w := by
  intro f
  induction f with
  | zero =>
    intro listed a w inv hp _ hr hy hS H
    have hun := (mem_ready.1 hr).1
    refine ⟨fun h => (by rw [h] at hr; cases hr), fun j hj => ?_⟩
    have hjn : j < n := trans_tail ht inv hp hin hun hj
    refine ⟨hjn, ?_⟩
    by_cases hji : j = i
    · subst hji; exact hy.wpOp hi hS ⟨hS, H⟩
    · have := hdone _ _ _ H j (ready_mono hj hji)
      omega
  | succ f ih =>
    intro listed a w inv hp hfree hr hy hS H
    have hun := (mem_ready.1 hr).1
    refine ⟨fun h => (by rw [h] at hr; cases hr), fun j hj => ?_⟩
    have hjn : j < n := trans_tail ht inv hp hin hun hj
    refine ⟨hjn, ?_⟩
    by_cases hji : j = i
    · subst hji; exact hy.wpOp hi hS ⟨hS, H⟩
    · have h1 := (H.2 j (ready_mono hj hji)).2
      obtain ⟨hjun, oj, hoj, hall⟩ := mem_ready.1 hj
      have hnot : ∀ e ∈ oj.after, Region.binds md e = true → e.on ≠ i := fun e he hb heq => by
        have h1 := hall e he hb
        rw [heq, getD_both hun] at h1
        cases h1
      have h2 := wpOp_putIf hoj (hfree j oj hoj hji hjun hnot) (fun cs b => hsel i oi cs b hi) (fun cs b => hsel j oj cs b hoj) hQ hy h1
      have hfree' : ∀ k ok, ops[k]? = some ok → k ≠ i → (listed.setIfInBounds j true).getD k true = false →
          (∀ e ∈ ok.after, Region.binds md e = true → e.on ≠ i) → oi.apart ops ok = true := fun k ok hk hki hun hno => by
        refine hfree k ok hk hki ?_ hno
        by_cases hjk : j = k
        · subst hjk; exact hjun
        · rw [getD_set_ne true hjk] at hun; exact hun
      refine wpOp_mono (fun a' w' h3 => ⟨h3.2.1, ih (listed.setIfInBounds j true) a' w' (inv.set hj hjn) (hp.set j) hfree' (ready_mono hr (Ne.symm hji)) h3.1 h3.2.1 ?_⟩) h2
      rw [Array.setIfInBounds_comm _ _ hji]
      exact h3.2.2
def invB (md : Region.Mode) (ops : Array Oper) (n : Nat) (listed : Array Bool) : Bool :=
  decide (listed.size = ops.size) && (((List.range ops.size).all fun j => !listed.getD j false || ((ops[j]?).map fun o => o.after.all fun e => !Region.binds md e || listed.getD e.on false).getD true) && (List.range ops.size).all fun t => decide (t < n) || !listed.getD t true)
theorem inv_of {n : Nat} {listed : Array Bool} (h : invB md ops n listed = true) : HeadInv md ops n listed := by
  simp only [invB, Bool.and_eq_true, decide_eq_true_eq] at h
  obtain ⟨h1, h2, h3⟩ := h
  refine ⟨h1, fun j oj hoj hl e he hb => ?_, fun t hn ht => ?_⟩
  · have hjs : j < ops.size := (Array.getElem?_eq_some_iff.1 hoj).1
    have h := List.all_eq_true.1 h2 j (List.mem_range.2 hjs)
    rw [hl, hoj] at h
    simp only [Bool.not_true, Bool.false_or, Option.map_some, Option.getD_some] at h
    have := Array.all_eq_true_iff_forall_mem.1 h e he
    rw [hb] at this
    simpa using this
  · have h := List.all_eq_true.1 h3 t (List.mem_range.2 ht)
    simp only [Bool.or_eq_true, decide_eq_true_eq, Bool.not_eq_true'] at h
    rcases h with h | h
    · omega
    · exact h
/-- What holds when all ahead of n are done. -/
def DoneAt (P : Program) (md : Region.Mode) (ops : Array Oper) (Q : Exit → Act → World → Prop) (n g : Nat) (listed : Array Bool) (a : Act) (w : World) : Prop :=
  ((Region.ready md ops listed).all fun j => decide (n ≤ j)) = true ∧ wpAny P md ops Q g listed a w
variable {n g : Nat} {pre : List Nat}
theorem T_done {listed : Array Bool} {a : Act} {w : World} (hB : ((Region.ready md ops listed).all fun j => decide (n ≤ j)) = true) (h : wpAny P md ops Q g listed a w) : wpAnyT P md ops Q S n (DoneAt P md ops Q n g) 0 listed a w := ⟨hB, h⟩
/-- Operation i only reads: it is taken first. -/
theorem T_first {listed : Array Bool} {a : Act} {w : World} {o : Oper} {f : Nat} (i d : Nat) (v : Value) (h0 : ops[i]? = some o) (hB1 : Hid (Region.noSelect ops = true)) (hB2 : Hid (transB md ops d n pre = true)) (hB3 : (invB md ops n listed && pre.all fun k => listed.getD k true) = true)
    (hB4 : (decide (i < n) && ((Region.ready md ops listed).contains i && Region.free md ops listed i)) = true)
    (hQ : ∀ c a t v w, Q (.panic c) (a.put (some t) v) w → Q (.panic c) a w) (hS : S w) (hw : Region.wanted o (yielded ops a.tmps) = true) (hv : ∀ w, S w → (execOp a.eval o).run P w = .ok (.value v) w)
    (h : wpAnyT P md ops Q S n (DoneAt P md ops Q n g) f (listed.setIfInBounds i true) (a.put o.dst v) w) : wpAnyT P md ops Q S n (DoneAt P md ops Q n g) (f + 1) listed a w := by
  simp only [Bool.and_eq_true, decide_eq_true_eq] at hB4 hB3
  obtain ⟨hin, hr, hf⟩ := hB4
  have hr' : i ∈ Region.ready md ops listed := by simpa using hr
  exact wpAnyT_first2 h0 (Region.noSelect_spec hB1.out) (fun c a w h => by cases hd : o.dst with | none => rw [hd] at h; exact h | some t => rw [hd] at h; exact hQ c a t _ w h) hB2.out hin (fun listed' a' w' hL j hj => by simpa using List.all_eq_true.1 hL.1 j hj) f listed a w (inv_of hB3.1) (fun k hk => List.all_eq_true.1 hB3.2 k hk) (Region.free_spec h0 hf) hr' (.inl ⟨hw, hv⟩) hS h
theorem T_one {f i : Nat} {listed : Array Bool} {a : Act} {w : World} {o : Oper}
    (hr : Region.ready md ops listed = [i]) (h0 : ops[i]? = some o) (hin : i < n) (h : if Region.wanted o (yielded ops a.tmps) = true then Oper.wp P o a w (fun a' w' => S w' ∧ wpAnyT P md ops Q S n (DoneAt P md ops Q n g) f (listed.setIfInBounds i true) a' w') Q else False) : wpAnyT P md ops Q S n (DoneAt P md ops Q n g) (f + 1) listed a w := by
  refine ⟨fun e => (by rw [hr] at e; cases e), fun j hj => ?_⟩
  rw [hr] at hj
  obtain rfl : j = i := by simpa using hj
  refine ⟨hin, ?_⟩
  unfold wpOp
  simp only [h0]
  split
  · rename_i hw; rw [if_pos hw] at h; exact .inl h
  · rename_i hw; rw [if_neg hw] at h; exact h.elim
theorem T_two {f i k : Nat} {listed : Array Bool} {a : Act} {w : World} {o p : Oper}
    (hr : Region.ready md ops listed = [i, k]) (h0 : ops[i]? = some o) (h1 : ops[k]? = some p) (hin : i < n) (hkn : k < n) (h : if Region.wanted o (yielded ops a.tmps) = true then Oper.wp P o a w (fun a' w' => S w' ∧ wpAnyT P md ops Q S n (DoneAt P md ops Q n g) f (listed.setIfInBounds i true) a' w') Q else False)
    (h' : if Region.wanted p (yielded ops a.tmps) = true then Oper.wp P p a w (fun a' w' => S w' ∧ wpAnyT P md ops Q S n (DoneAt P md ops Q n g) f (listed.setIfInBounds k true) a' w') Q else False) : wpAnyT P md ops Q S n (DoneAt P md ops Q n g) (f + 1) listed a w := by
  refine ⟨fun e => (by rw [hr] at e; cases e), fun j hj => ?_⟩
  rw [hr] at hj
  rcases (show j = i ∨ j = k by simpa using hj) with rfl | rfl
  · refine ⟨hin, ?_⟩
    unfold wpOp
    simp only [h0]
    split
    · rename_i hw; rw [if_pos hw] at h; exact .inl h
    · rename_i hw; rw [if_neg hw] at h; exact h.elim
  · refine ⟨hkn, ?_⟩
    unfold wpOp
    simp only [h1]
    split
    · rename_i hw; rw [if_pos hw] at h'; exact .inl h'
    · rename_i hw; rw [if_neg hw] at h'; exact h'.elim
/-- What is left comes in one order. -/
theorem wpAny_seq {g : Nat} {listed : Array Bool} {a : Act} {w : World} (k : Nat) {l : List Oper} (hB : Region.seqB md ops g k listed = true) (hg : ops.size = k + g) (hl : ops.toList.drop k = l) (h : wpList P ops Q l a w) : wpAny P md ops Q g listed a w := by
  subst hl
  have hlen : (ops.toList.drop k).length = g := by simp; omega
  have := wpAny_of_seq (P := P) (ops := ops) (md := md) (Q' := Q) (ops.toList.drop k) k listed a w (fun j => by simp [List.getElem?_drop]) (by rw [hlen]; exact hB) h
  rwa [hlen] at this
end
def pickL (l : List Oper) : List Nat → List Oper
  | [] => []
  | i :: r => (l.drop i).head?.toList ++ pickL l r
def midPB (md : Region.Mode) (ops : Array Oper) (n g : Nat) : List Nat → Array Bool → Bool
  | [], listed => Region.seqB md ops g n listed
  | i :: r, listed => decide (Region.ready md ops listed = [i]) && (decide (i < n) && midPB md ops n g r (listed.setIfInBounds i true))
def headPB (md : Region.Mode) (ops : Array Oper) (n g : Nat) (mid : List Nat) : List Nat → Array Bool → Bool
  | [], listed => midPB md ops n g mid listed
  | i :: r, listed => decide (i < n) && ((Region.ready md ops listed).contains i && (Region.free md ops listed i && headPB md ops n g mid r (listed.setIfInBounds i true)))
section
variable {P : Program} {l : List Oper} {Q : Exit → Act → World → Prop} {md : Region.Mode} {S : World → Prop}
theorem pick_at {i : Nat} {r : List Nat} {o : Oper} {t : List Oper} (h : l[i]? = some o) : pickL l (i :: r) = o :: pickL l r := by
  have : (l.drop i).head? = some o := by rw [List.head?_drop]; exact h
  simp [pickL, this]
theorem wpHead_mono {ops : Array Oper} {L L' : Act → Prop} : ∀ {l : List Oper} {a : Act}, (∀ a, L a → L' a) → wpHead P ops S L l a → wpHead P ops S L' l a
  | [], _, h, k => h _ k
  | _ :: _, _, h, ⟨v, hy, hk⟩ => ⟨v, hy, wpHead_mono h hk⟩
theorem wpAnyT_midP {n g : Nat} {K : Act → World → Prop} : ∀ (mid : List Nat) (listed : Array Bool) (a : Act) (w : World),
    midPB md l.toArray n g mid listed = true → (∀ i ∈ mid, i < l.length) → wpMid P l.toArray Q S K (pickL l mid) a w → wpAnyT P md l.toArray Q S n (fun listed' a' w' => Region.seqB md l.toArray g n listed' = true ∧ K a' w') mid.length listed a w
  | [], listed, a, w, hB, _, h => ⟨hB, h⟩
  | i :: r, listed, a, w, hB, hl, h => by
    have hi : i < l.length := hl i (by simp)
    obtain ⟨o, ho⟩ : ∃ o, l[i]? = some o := ⟨_, List.getElem?_eq_getElem hi⟩
    rw [pick_at (t := []) ho] at h
    simp only [midPB, Bool.and_eq_true, decide_eq_true_eq] at hB
    refine ⟨fun h1 => (by rw [hB.1] at h1; cases h1), fun j hj => ?_⟩
    rw [hB.1] at hj
    obtain rfl : j = i := by simpa using hj
    refine ⟨hB.2.1, ?_⟩
    have ho' : l.toArray[j]? = some o := by simpa using ho
    unfold wpOp
    simp only [ho']
    rw [if_pos h.1]
    refine .inl (Oper.wp_mono (fun a' w' h' => ⟨h'.1, ?_⟩) h.2)
    exact wpAnyT_midP r _ a' w' hB.2.2 (fun k hk => hl k (by simp [hk])) h'.2
theorem wpAnyT_headP {n g d : Nat} {pre : List Nat} {K : Act → World → Prop} {mid : List Nat} {w : World} (hsel : Region.noSelect l.toArray = true) (ht : transB md l.toArray d n pre = true)
    (hQ : ∀ c a d v w, Q (.panic c) (a.put d v) w → Q (.panic c) a w) (hS : S w) (hml : ∀ i ∈ mid, i < l.length) :
    ∀ (rd : List Nat) (listed : Array Bool) (a : Act), (∀ i ∈ rd, i < l.length) → HeadInv md l.toArray n listed → PreIn pre listed →
    headPB md l.toArray n g mid rd listed = true → wpHead P l.toArray S (fun a' => wpMid P l.toArray Q S K (pickL l mid) a' w) (pickL l rd) a →
    wpAnyT P md l.toArray Q S n (fun listed' a' w' => Region.seqB md l.toArray g n listed' = true ∧ K a' w') (rd.length + mid.length) listed a w
  | [], listed, a, _, inv, hp, hB, h => by
    rw [List.length_nil, Nat.zero_add]
    exact wpAnyT_midP mid listed a w hB hml h
  | i :: r, listed, a, hl, inv, hp, hB, h => by
    have hi : i < l.length := hl i (by simp)
    obtain ⟨o, ho⟩ : ∃ o, l[i]? = some o := ⟨_, List.getElem?_eq_getElem hi⟩
    rw [pick_at (t := []) ho] at h
    have ho' : l.toArray[i]? = some o := by simpa using ho
    simp only [headPB, Bool.and_eq_true, decide_eq_true_eq] at hB
    obtain ⟨hin, hr, hf, hB'⟩ := hB
    have hr' : i ∈ Region.ready md l.toArray listed := by simpa using hr
    obtain ⟨v, hy, hK⟩ := h
    rw [List.length_cons, show r.length + 1 + mid.length = (r.length + mid.length) + 1 by omega]
    exact wpAnyT_first2 ho' (Region.noSelect_spec hsel) (fun c a w => hQ c a _ _ w) ht hin (fun listed' a' w' hL => seqB_ready hL.1) (r.length + mid.length) listed a w inv hp (Region.free_spec ho' hf) hr' hy hS
      (wpAnyT_headP hsel ht hQ hS hml r _ _ (fun k hk => hl k (by simp [hk])) (inv.set hr' hin) (hp.set i) hB' hK)
end
/-- Those that read nothing are taken ahead of all. -/
def prePB (md : Region.Mode) (ops : Array Oper) : List Nat → Array Bool → Bool
  | [], _ => true
  | i :: r, listed => (Region.ready md ops listed).contains i && (Region.free md ops listed i && prePB md ops r (listed.setIfInBounds i true))
def preL (listed : Array Bool) : List Nat → Array Bool
  | [] => listed
  | i :: r => preL (listed.setIfInBounds i true) r
theorem wpAny_pre {P : Program} {l : List Oper} {Q : Exit → Act → World → Prop} {md : Region.Mode} {f : Nat} {w : World} (hsel : Region.noSelect l.toArray = true) (hQ : ∀ c a d v w, Q (.panic c) (a.put d v) w → Q (.panic c) a w) :
    ∀ (pre : List Nat) (listed : Array Bool) (a : Act), (∀ i ∈ pre, i < l.length) → prePB md l.toArray pre listed = true →
    wpHead P l.toArray (fun _ => True) (fun a' => wpAny P md l.toArray Q f (preL listed pre) a' w) (pickL l pre) a → wpAny P md l.toArray Q (pre.length + f) listed a w
  | [], listed, a, _, _, h => by rw [List.length_nil, Nat.zero_add]; exact h
  | i :: r, listed, a, hl, hB, h => by
    have hi : i < l.length := hl i (by simp)
    obtain ⟨o, ho⟩ : ∃ o, l[i]? = some o := ⟨_, List.getElem?_eq_getElem hi⟩
    rw [pick_at (t := []) ho] at h
    have ho' : l.toArray[i]? = some o := by simpa using ho
    simp only [prePB, Bool.and_eq_true] at hB
    obtain ⟨v, hy, hK⟩ := h
    rw [List.length_cons, show r.length + 1 + f = (r.length + f) + 1 by omega]
    refine wpAny_take ho' hsel hB.2.1 hB.1 (fun c a w => hQ c a _ _ w) (v := v) ?_ (wpAny_pre hsel hQ r _ _ (fun k hk => hl k (by simp [hk])) hB.2.2 hK)
    rcases hy with ⟨hw, hv⟩ | ⟨hw, hv⟩
    · exact .inl ⟨hw, fun w => hv w trivial⟩
    · exact .inr ⟨hw, hv⟩
def regPermB (ops : Array Oper) (pre rd mid : List Nat) (n d : Nat) : Bool :=
  Region.noSelect ops && (decide (pre.length + rd.length + mid.length = n) && (decide (n ≤ ops.size) && (transB .any ops d n pre && ((pre ++ rd ++ mid).all (fun i => decide (i < ops.size)) && (prePB .any ops pre (Array.replicate ops.size false) && (invB .any ops n (preL (Array.replicate ops.size false) pre) && (pre.all (fun k => (preL (Array.replicate ops.size false) pre).getD k true) && headPB .any ops n (ops.size - n) mid rd (preL (Array.replicate ops.size false) pre))))))))
/-- pre: operations that read nothing, taken ahead of all; rd: those that only read, in the order in which they are taken; mid: the others ahead of n, in their one order; n: how many these are; what stands from n on waits for all of them. d: how long a chain of waiting is. -/
theorem wp_region_perm {P : Program} {id : Nat} {Q : Exit → Act → World → Prop} {a : Act} {w : World} {l : List Oper} (pre rd mid : List Nat) (n d : Nat) (S : World → Prop) (hm : P.follows .mixedOrders = true) (hB : regPermB l.toArray pre rd mid n d = true)
    (hQ : ∀ c a t v w, Q (.panic c) (a.put (some t) v) w → Q (.panic c) a w) (hS : S w.drew)
    (h : wpHead P l.toArray (fun _ => True) (fun a0 => wpHead P l.toArray S (fun a' => wpMid P l.toArray Q S (wpList P l.toArray Q (l.drop n)) (pickL l mid) a' w.drew) (pickL l rd) a0) (pickL l pre) a) : (Code.region id l.toArray true).wp P Q a w := by
  simp only [regPermB, Bool.and_eq_true, decide_eq_true_eq, List.all_eq_true] at hB
  obtain ⟨hsel, hlen, hn, ht, hlt, hpr, hinv, hpin, hh⟩ := hB
  have hn' : n ≤ l.length := by simpa using hn
  have hdl : (l.drop n).length = l.toArray.size - n := by simp
  have hQ' : ∀ c a d v w, Q (.panic c) (a.put d v) w → Q (.panic c) a w := fun c a d v w h => by cases d with | none => exact h | some t => exact hQ c a t v w h
  refine wp_region_any hm ?_
  have H := wpAny_pre (P := P) (l := l) (Q := Q) (md := .any) (f := rd.length + mid.length + (l.toArray.size - n)) (w := w.drew) hsel hQ' pre (Array.replicate l.toArray.size false) a (fun i hi => by simpa using hlt i (by simp [hi])) hpr ?_
  · rw [show pre.length + (rd.length + mid.length + (l.toArray.size - n)) = l.toArray.size by omega] at H
    exact H
  · refine wpHead_mono (fun a0 h0 => ?_) h
    have H := wpAnyT_headP (md := .any) (g := l.toArray.size - n) hsel ht hQ' hS (fun i hi => by simpa using hlt i (by simp [hi])) rd _ a0 (fun i hi => by simpa using hlt i (by simp [hi])) (inv_of hinv) (fun k hk => hpin k hk) hh h0
    exact wpAny_of_T (Q := Q) (g := l.toArray.size - n) (fun listed' a' w' hL => by
      have := wpAny_of_seq (md := .any) (Q' := Q) (l.drop n) n listed' a' w' (fun j => by simp [List.getElem?_drop]) (by rw [hdl]; exact hL.1) hL.2
      rwa [hdl] at this) _ _ _ _ H
/-- The region, by single steps: n operations stand ahead, g behind. -/
theorem wp_region_phase {P : Program} {id : Nat} {Q : Exit → Act → World → Prop} {a : Act} {w : World} {l : List Oper} (pre : List Nat) (n g : Nat) (S : World → Prop) (hm : P.follows .mixedOrders = true) (hz : l.length = n + g)
    (d : Nat) (hNS : Region.noSelect l.toArray = true) (hTB : transB .any l.toArray d n pre = true) (hpl : (decide (pre.length ≤ n) && ((pre.all fun i => decide (i < l.toArray.size)) && prePB .any l.toArray pre (Array.replicate l.toArray.size false))) = true)
    (hQ : ∀ c a t v w, Q (.panic c) (a.put (some t) v) w → Q (.panic c) a w)
    (h : Hid (Region.noSelect l.toArray = true) → Hid (transB .any l.toArray d n pre = true) → wpHead P l.toArray (fun _ => True) (fun a0 => wpAnyT P .any l.toArray Q S n (DoneAt P .any l.toArray Q n g) (n - pre.length) (preL (Array.replicate l.toArray.size false) pre) a0 w.drew) (pickL l pre) a) : (Code.region id l.toArray true).wp P Q a w := by
  simp only [Bool.and_eq_true, decide_eq_true_eq, List.all_eq_true] at hpl
  have hz' : l.toArray.size = n + g := by simpa using hz
  refine wp_region_any hm ?_
  have H := wpAny_pre (P := P) (l := l) (Q := Q) (md := .any) (f := n - pre.length + g) (w := w.drew) hNS (fun c a d v w h => by cases d with | none => exact h | some t => exact hQ c a t v w h) pre (Array.replicate l.toArray.size false) a (fun i hi => by simpa using hpl.2.1 i hi) hpl.2.2 ?_
  · rw [show pre.length + (n - pre.length + g) = l.toArray.size by omega] at H
    exact H
  · refine wpHead_mono (fun a0 h0 => ?_) (h hNS hTB)
    exact wpAny_of_T (g := g) (fun listed a' w' hL => hL.2) _ _ _ _ h0
end Go.Proofs.YtfkfheddhnjaaaaGreat
