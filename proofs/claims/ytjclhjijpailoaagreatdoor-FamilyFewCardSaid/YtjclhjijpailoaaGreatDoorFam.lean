/- What several texts of this seat lean on, joined: RegR FamA FamB FamC FamD FamE FamF FamG FamH. -/
import Derived.Test.YtjclhjijpailoaaGreatDoorRegT
import Derived.Test.YtjclhjijpailoaaGreatDoorLaw
import Derived.Test.YtjclhjijpailoaaGreatDoorGrB
import Derived.Deep.AppendLies
import Derived.Test.YtjclhjijpailoaaGreatDoorOwnOr
import Derived.Test.YtjclhjijpailoaaGreatDoorCfF
import Derived.Test.YtjclhjijpailoaaGreatDoorCnF
namespace Go.Proofs.YtjclhjijpailoaaGreatDoor
open Go Go.RowKit Law
set_option linter.unusedVariables false
set_option linter.unusedSimpArgs false

section
variable {P : Program} {ops : Array Oper} {Q : Exit → Act → World → Prop} {md : Region.Mode} {S : World → Prop}
/-- t waits for i, by so many steps at most. -/
def reachB (md : Region.Mode) (ops : Array Oper) : Nat → Nat → Nat → Bool
  | 0, _, _ => false
  | f + 1, t, i => Region.waitsFor md ops t i || (List.range ops.size).any fun k => decide (k < t) && (Region.waitsFor md ops t k && reachB md ops f k i)
/-- What stands from n on waits for each of those ahead of n. -/
def transB (md : Region.Mode) (ops : Array Oper) (d n : Nat) (pre : List Nat) : Bool :=
  (List.range ops.size).all fun t => decide (t < n) || (pre.contains t || (List.range n).all fun i => pre.contains i || reachB md ops d t i)
/-- Those ahead of all are done. -/
def PreIn (pre : List Nat) (listed : Array Bool) : Prop := ∀ i ∈ pre, listed.getD i true = true
theorem waits_of {md : Region.Mode} {ops : Array Oper} {t i : Nat} (h : Region.waitsFor md ops t i = true) : ∃ o, ops[t]? = some o ∧ ∃ e ∈ o.after, Region.binds md e = true ∧ e.on = i := by
  unfold Region.waitsFor at h
  cases ho : ops[t]? with
  | none => simp [ho] at h
  | some o =>
    simp only [ho, Option.map_some, Option.getD_some] at h
    obtain ⟨e, he, hb⟩ := Array.any_eq_true'.1 h
    simp only [Bool.and_eq_true, beq_iff_eq] at hb
    exact ⟨o, rfl, e, he, hb.1, hb.2⟩
theorem reach_listed {n : Nat} {listed : Array Bool} (inv : HeadInv md ops n listed) : ∀ (d t i : Nat), reachB md ops d t i = true → (∀ o, ops[t]? = some o → ∀ e ∈ o.after, Region.binds md e = true → listed.getD e.on false = true) → listed.getD i false = true
  | 0, _, _, h, _ => by simp [reachB] at h
  | d + 1, t, i, h, hall => by
    unfold reachB at h
    simp only [Bool.or_eq_true] at h
    rcases h with h | h
    · obtain ⟨o, ho, e, he, hb, heq⟩ := waits_of h
      rw [← heq]
      exact hall o ho e he hb
    · obtain ⟨k, _, h⟩ := List.any_eq_true.1 h
      simp only [Bool.and_eq_true] at h
      obtain ⟨o, ho, e, he, hb, heq⟩ := waits_of h.2.1
      have hk := hall o ho e he hb
      rw [heq] at hk
      exact reach_listed inv d k i h.2.2 (fun ok hok e2 he2 hb2 => inv.closed k ok hok hk e2 he2 hb2)
theorem PreIn.set {pre : List Nat} {listed : Array Bool} (h : PreIn pre listed) (j : Nat) : PreIn pre (listed.setIfInBounds j true) := fun i hi => by
  by_cases hij : j = i
  · subst hij
    have h1 := h j hi
    by_cases hs : j < listed.size
    · simp [Array.getD, hs]
    · simp [Array.getD, hs]
  · rw [getD_set_ne true hij]
    exact h i hi
theorem trans_tail {d n : Nat} {pre : List Nat} (ht : transB md ops d n pre = true) {listed : Array Bool} (inv : HeadInv md ops n listed) (hp : PreIn pre listed) {i : Nat} (hin : i < n) (hun : listed.getD i true = false) {j : Nat} (hj : j ∈ Region.ready md ops listed) : j < n := by
  rcases Nat.lt_or_ge j n with h | h
  · exact h
  · exfalso
    obtain ⟨hjun, oj, hoj, hall⟩ := mem_ready.1 hj
    have hjs : j < ops.size := (Array.getElem?_eq_some_iff.1 hoj).1
    have hb := List.all_eq_true.1 ht j (List.mem_range.2 hjs)
    simp only [Bool.or_eq_true, decide_eq_true_eq] at hb
    rcases hb with hb | hb | hb
    · omega
    · have := hp j (by simpa using hb)
      rw [this] at hjun
      cases hjun
    · have hb' := List.all_eq_true.1 hb i (List.mem_range.2 hin)
      simp only [Bool.or_eq_true] at hb'
      rcases hb' with hb' | hb'
      · have := hp i (by simpa using hb')
        rw [this] at hun
        cases hun
      have h1 := reach_listed inv d j i hb' (fun o ho e he hbi => by
        rw [hoj] at ho
        cases ho
        exact hall e he hbi)
      rw [getD_both hun] at h1
      cases h1
theorem wpAnyT_first2 {d n i : Nat} {pre : List Nat} {oi : Oper} {v : Value} {L : Array Bool → Act → World → Prop} (hi : ops[i]? = some oi) (hsel : ∀ (j : Nat) (o : Oper) cs b, ops[j]? = some o → o.op ≠ .select cs b)
    (hQ : ∀ c a w, Q (.panic c) (a.put oi.dst v) w → Q (.panic c) a w) (ht : transB md ops d n pre = true) (hin : i < n)
    (hdone : ∀ listed a w, L listed a w → ∀ j ∈ Region.ready md ops listed, n ≤ j) :
    ∀ (f : Nat) (listed : Array Bool) (a : Act) (w : World), HeadInv md ops n listed → PreIn pre listed →
      (∀ j oj, ops[j]? = some oj → j ≠ i → listed.getD j true = false → (∀ e ∈ oj.after, Region.binds md e = true → e.on ≠ i) → oi.apart ops oj = true) →
      i ∈ Region.ready md ops listed → YieldsIf P ops S oi v a → S w →
      wpAnyT P md ops Q S n L f (listed.setIfInBounds i true) (a.put oi.dst v) w → wpAnyT P md ops Q S n L (f + 1) listed a w := by
  intro f
  induction f with
  | zero =>
    intro listed a w inv hp _ hr hy hS H
    have hun := (mem_ready.1 hr).1
    refine ⟨fun h => (by rw [h] at hr; cases hr), fun j hj => ?_⟩
    have hjn : j < n := trans_tail ht inv hp hin hun hj
    refine ⟨hjn, ?_⟩
    by_cases hji : j = i
    · subst hji; exact hy.wpOp hi hS ⟨hS, H⟩
    · have := hdone _ _ _ H j (ready_mono hj hji)
      omega
  | succ f ih =>
    intro listed a w inv hp hfree hr hy hS H
    have hun := (mem_ready.1 hr).1
    refine ⟨fun h => (by rw [h] at hr; cases hr), fun j hj => ?_⟩
    have hjn : j < n := trans_tail ht inv hp hin hun hj
    refine ⟨hjn, ?_⟩
    by_cases hji : j = i
    · subst hji; exact hy.wpOp hi hS ⟨hS, H⟩
    · have h1 := (H.2 j (ready_mono hj hji)).2
      obtain ⟨hjun, oj, hoj, hall⟩ := mem_ready.1 hj
      have hnot : ∀ e ∈ oj.after, Region.binds md e = true → e.on ≠ i := fun e he hb heq => by
        have h1 := hall e he hb
        rw [heq, getD_both hun] at h1
        cases h1
      have h2 := wpOp_putIf hoj (hfree j oj hoj hji hjun hnot) (fun cs b => hsel i oi cs b hi) (fun cs b => hsel j oj cs b hoj) hQ hy h1
      have hfree' : ∀ k ok, ops[k]? = some ok → k ≠ i → (listed.setIfInBounds j true).getD k true = false →
          (∀ e ∈ ok.after, Region.binds md e = true → e.on ≠ i) → oi.apart ops ok = true := fun k ok hk hki hun hno => by
        refine hfree k ok hk hki ?_ hno
        by_cases hjk : j = k
        · subst hjk; exact hjun
        · rw [getD_set_ne true hjk] at hun; exact hun
      refine wpOp_mono (fun a' w' h3 => ⟨h3.2.1, ih (listed.setIfInBounds j true) a' w' (inv.set hj hjn) (hp.set j) hfree' (ready_mono hr (Ne.symm hji)) h3.1 h3.2.1 ?_⟩) h2
      rw [Array.setIfInBounds_comm _ _ hji]
      exact h3.2.2
def invB (md : Region.Mode) (ops : Array Oper) (n : Nat) (listed : Array Bool) : Bool :=
  decide (listed.size = ops.size) && (((List.range ops.size).all fun j => !listed.getD j false || ((ops[j]?).map fun o => o.after.all fun e => !Region.binds md e || listed.getD e.on false).getD true) && (List.range ops.size).all fun t => decide (t < n) || !listed.getD t true)
theorem inv_of {n : Nat} {listed : Array Bool} (h : invB md ops n listed = true) : HeadInv md ops n listed := by
  simp only [invB, Bool.and_eq_true, decide_eq_true_eq] at h
  obtain ⟨h1, h2, h3⟩ := h
  refine ⟨h1, fun j oj hoj hl e he hb => ?_, fun t hn ht => ?_⟩
  · have hjs : j < ops.size := (Array.getElem?_eq_some_iff.1 hoj).1
    have h := List.all_eq_true.1 h2 j (List.mem_range.2 hjs)
    rw [hl, hoj] at h
    simp only [Bool.not_true, Bool.false_or, Option.map_some, Option.getD_some] at h
    have := Array.all_eq_true_iff_forall_mem.1 h e he
    rw [hb] at this
    simpa using this
  · have h := List.all_eq_true.1 h3 t (List.mem_range.2 ht)
    simp only [Bool.or_eq_true, decide_eq_true_eq, Bool.not_eq_true'] at h
    rcases h with h | h
    · omega
    · exact h
/-- What holds when all ahead of n are done. -/
def DoneAt (P : Program) (md : Region.Mode) (ops : Array Oper) (Q : Exit → Act → World → Prop) (n g : Nat) (listed : Array Bool) (a : Act) (w : World) : Prop :=
  ((Region.ready md ops listed).all fun j => decide (n ≤ j)) = true ∧ wpAny P md ops Q g listed a w
variable {n g : Nat} {pre : List Nat}
theorem T_done {listed : Array Bool} {a : Act} {w : World} (hB : ((Region.ready md ops listed).all fun j => decide (n ≤ j)) = true) (h : wpAny P md ops Q g listed a w) : wpAnyT P md ops Q S n (DoneAt P md ops Q n g) 0 listed a w := ⟨hB, h⟩
/-- Operation i only reads: it is taken first. -/
theorem T_first {listed : Array Bool} {a : Act} {w : World} {o : Oper} {f : Nat} (i d : Nat) (v : Value) (h0 : ops[i]? = some o) (hB1 : Hid (Region.noSelect ops = true)) (hB2 : Hid (transB md ops d n pre = true)) (hB3 : (invB md ops n listed && pre.all fun k => listed.getD k true) = true)
    (hB4 : (decide (i < n) && ((Region.ready md ops listed).contains i && Region.free md ops listed i)) = true)
    (hQ : ∀ c a t v w, Q (.panic c) (a.put (some t) v) w → Q (.panic c) a w) (hS : S w) (hw : Region.wanted o (yielded ops a.tmps) = true) (hv : ∀ w, S w → (execOp a.eval o).run P w = .ok (.value v) w)
    (h : wpAnyT P md ops Q S n (DoneAt P md ops Q n g) f (listed.setIfInBounds i true) (a.put o.dst v) w) : wpAnyT P md ops Q S n (DoneAt P md ops Q n g) (f + 1) listed a w := by
  simp only [Bool.and_eq_true, decide_eq_true_eq] at hB4 hB3
  obtain ⟨hin, hr, hf⟩ := hB4
  have hr' : i ∈ Region.ready md ops listed := by simpa using hr
  exact wpAnyT_first2 h0 (Region.noSelect_spec hB1.out) (fun c a w h => by cases hd : o.dst with | none => rw [hd] at h; exact h | some t => rw [hd] at h; exact hQ c a t _ w h) hB2.out hin (fun listed' a' w' hL j hj => by simpa using List.all_eq_true.1 hL.1 j hj) f listed a w (inv_of hB3.1) (fun k hk => List.all_eq_true.1 hB3.2 k hk) (Region.free_spec h0 hf) hr' (.inl ⟨hw, hv⟩) hS h
theorem T_one {f i : Nat} {listed : Array Bool} {a : Act} {w : World} {o : Oper}
    (hr : Region.ready md ops listed = [i]) (h0 : ops[i]? = some o) (hin : i < n) (h : if Region.wanted o (yielded ops a.tmps) = true then Oper.wp P o a w (fun a' w' => S w' ∧ wpAnyT P md ops Q S n (DoneAt P md ops Q n g) f (listed.setIfInBounds i true) a' w') Q else False) : wpAnyT P md ops Q S n (DoneAt P md ops Q n g) (f + 1) listed a w := by
  refine ⟨fun e => (by rw [hr] at e; cases e), fun j hj => ?_⟩
  rw [hr] at hj
  obtain rfl : j = i := by simpa using hj
  refine ⟨hin, ?_⟩
  unfold wpOp
  simp only [h0]
  split
  · rename_i hw; rw [if_pos hw] at h; exact .inl h
  · rename_i hw; rw [if_neg hw] at h; exact h.elim
theorem T_two {f i k : Nat} {listed : Array Bool} {a : Act} {w : World} {o p : Oper}
    (hr : Region.ready md ops listed = [i, k]) (h0 : ops[i]? = some o) (h1 : ops[k]? = some p) (hin : i < n) (hkn : k < n) (h : if Region.wanted o (yielded ops a.tmps) = true then Oper.wp P o a w (fun a' w' => S w' ∧ wpAnyT P md ops Q S n (DoneAt P md ops Q n g) f (listed.setIfInBounds i true) a' w') Q else False)
    (h' : if Region.wanted p (yielded ops a.tmps) = true then Oper.wp P p a w (fun a' w' => S w' ∧ wpAnyT P md ops Q S n (DoneAt P md ops Q n g) f (listed.setIfInBounds k true) a' w') Q else False) : wpAnyT P md ops Q S n (DoneAt P md ops Q n g) (f + 1) listed a w := by
  refine ⟨fun e => (by rw [hr] at e; cases e), fun j hj => ?_⟩
  rw [hr] at hj
  rcases (show j = i ∨ j = k by simpa using hj) with rfl | rfl
  · refine ⟨hin, ?_⟩
    unfold wpOp
    simp only [h0]
    split
    · rename_i hw; rw [if_pos hw] at h; exact .inl h
    · rename_i hw; rw [if_neg hw] at h; exact h.elim
  · refine ⟨hkn, ?_⟩
    unfold wpOp
    simp only [h1]
    split
    · rename_i hw; rw [if_pos hw] at h'; exact .inl h'
    · rename_i hw; rw [if_neg hw] at h'; exact h'.elim
/-- What is left comes in one order. -/
theorem wpAny_seq {g : Nat} {listed : Array Bool} {a : Act} {w : World} (k : Nat) {l : List Oper} (hB : Region.seqB md ops g k listed = true) (hg : ops.size = k + g) (hl : ops.toList.drop k = l) (h : wpList P ops Q l a w) : wpAny P md ops Q g listed a w := by
  subst hl
  have hlen : (ops.toList.drop k).length = g := by simp; omega
  have := wpAny_of_seq (P := P) (ops := ops) (md := md) (Q' := Q) (ops.toList.drop k) k listed a w (fun j => by simp [List.getElem?_drop]) (by rw [hlen]; exact hB) h
  rwa [hlen] at this
end
def pickL (l : List Oper) : List Nat → List Oper
  | [] => []
  | i :: r => (l.drop i).head?.toList ++ pickL l r
def midPB (md : Region.Mode) (ops : Array Oper) (n g : Nat) : List Nat → Array Bool → Bool
  | [], listed => Region.seqB md ops g n listed
  | i :: r, listed => decide (Region.ready md ops listed = [i]) && (decide (i < n) && midPB md ops n g r (listed.setIfInBounds i true))
def headPB (md : Region.Mode) (ops : Array Oper) (n g : Nat) (mid : List Nat) : List Nat → Array Bool → Bool
  | [], listed => midPB md ops n g mid listed
  | i :: r, listed => decide (i < n) && ((Region.ready md ops listed).contains i && (Region.free md ops listed i && headPB md ops n g mid r (listed.setIfInBounds i true)))
section
variable {P : Program} {l : List Oper} {Q : Exit → Act → World → Prop} {md : Region.Mode} {S : World → Prop}
theorem pick_at {i : Nat} {r : List Nat} {o : Oper} {t : List Oper} (h : l[i]? = some o) : pickL l (i :: r) = o :: pickL l r := by
  have : (l.drop i).head? = some o := by rw [List.head?_drop]; exact h
  simp [pickL, this]
theorem wpHead_mono {ops : Array Oper} {L L' : Act → Prop} : ∀ {l : List Oper} {a : Act}, (∀ a, L a → L' a) → wpHead P ops S L l a → wpHead P ops S L' l a
  | [], _, h, k => h _ k
  | _ :: _, _, h, ⟨v, hy, hk⟩ => ⟨v, hy, wpHead_mono h hk⟩
theorem wpAnyT_midP {n g : Nat} {K : Act → World → Prop} : ∀ (mid : List Nat) (listed : Array Bool) (a : Act) (w : World),
    midPB md l.toArray n g mid listed = true → (∀ i ∈ mid, i < l.length) → wpMid P l.toArray Q S K (pickL l mid) a w → wpAnyT P md l.toArray Q S n (fun listed' a' w' => Region.seqB md l.toArray g n listed' = true ∧ K a' w') mid.length listed a w
  | [], listed, a, w, hB, _, h => ⟨hB, h⟩
  | i :: r, listed, a, w, hB, hl, h => by
    have hi : i < l.length := hl i (by simp)
    obtain ⟨o, ho⟩ : ∃ o, l[i]? = some o := ⟨_, List.getElem?_eq_getElem hi⟩
    rw [pick_at (t := []) ho] at h
    simp only [midPB, Bool.and_eq_true, decide_eq_true_eq] at hB
    refine ⟨fun h1 => (by rw [hB.1] at h1; cases h1), fun j hj => ?_⟩
    rw [hB.1] at hj
    obtain rfl : j = i := by simpa using hj
    refine ⟨hB.2.1, ?_⟩
    have ho' : l.toArray[j]? = some o := by simpa using ho
    unfold wpOp
    simp only [ho']
    rw [if_pos h.1]
    refine .inl (Oper.wp_mono (fun a' w' h' => ⟨h'.1, ?_⟩) h.2)
    exact wpAnyT_midP r _ a' w' hB.2.2 (fun k hk => hl k (by simp [hk])) h'.2
theorem wpAnyT_headP {n g d : Nat} {pre : List Nat} {K : Act → World → Prop} {mid : List Nat} {w : World} (hsel : Region.noSelect l.toArray = true) (ht : transB md l.toArray d n pre = true)
    (hQ : ∀ c a d v w, Q (.panic c) (a.put d v) w → Q (.panic c) a w) (hS : S w) (hml : ∀ i ∈ mid, i < l.length) :
    ∀ (rd : List Nat) (listed : Array Bool) (a : Act), (∀ i ∈ rd, i < l.length) → HeadInv md l.toArray n listed → PreIn pre listed →
    headPB md l.toArray n g mid rd listed = true → wpHead P l.toArray S (fun a' => wpMid P l.toArray Q S K (pickL l mid) a' w) (pickL l rd) a →
    wpAnyT P md l.toArray Q S n (fun listed' a' w' => Region.seqB md l.toArray g n listed' = true ∧ K a' w') (rd.length + mid.length) listed a w
  | [], listed, a, _, inv, hp, hB, h => by
    rw [List.length_nil, Nat.zero_add]
    exact wpAnyT_midP mid listed a w hB hml h
  | i :: r, listed, a, hl, inv, hp, hB, h => by
    have hi : i < l.length := hl i (by simp)
    obtain ⟨o, ho⟩ : ∃ o, l[i]? = some o := ⟨_, List.getElem?_eq_getElem hi⟩
    rw [pick_at (t := []) ho] at h
    have ho' : l.toArray[i]? = some o := by simpa using ho
    simp only [headPB, Bool.and_eq_true, decide_eq_true_eq] at hB
    obtain ⟨hin, hr, hf, hB'⟩ := hB
    have hr' : i ∈ Region.ready md l.toArray listed := by simpa using hr
    obtain ⟨v, hy, hK⟩ := h
    rw [List.length_cons, show r.length + 1 + mid.length = (r.length + mid.length) + 1 by omega]
    exact wpAnyT_first2 ho' (Region.noSelect_spec hsel) (fun c a w => hQ c a _ _ w) ht hin (fun listed' a' w' hL => seqB_ready hL.1) (r.length + mid.length) listed a w inv hp (Region.free_spec ho' hf) hr' hy hS
      (wpAnyT_headP hsel ht hQ hS hml r _ _ (fun k hk => hl k (by simp [hk])) (inv.set hr' hin) (hp.set i) hB' hK)
end
/-- Those that read nothing are taken ahead of all. -/
def prePB (md : Region.Mode) (ops : Array Oper) : List Nat → Array Bool → Bool
  | [], _ => true
  | i :: r, listed => (Region.ready md ops listed).contains i && (Region.free md ops listed i && prePB md ops r (listed.setIfInBounds i true))
def preL (listed : Array Bool) : List Nat → Array Bool
  | [] => listed
  | i :: r => preL (listed.setIfInBounds i true) r
theorem wpAny_pre {P : Program} {l : List Oper} {Q : Exit → Act → World → Prop} {md : Region.Mode} {f : Nat} {w : World} (hsel : Region.noSelect l.toArray = true) (hQ : ∀ c a d v w, Q (.panic c) (a.put d v) w → Q (.panic c) a w) :
    ∀ (pre : List Nat) (listed : Array Bool) (a : Act), (∀ i ∈ pre, i < l.length) → prePB md l.toArray pre listed = true →
    wpHead P l.toArray (fun _ => True) (fun a' => wpAny P md l.toArray Q f (preL listed pre) a' w) (pickL l pre) a → wpAny P md l.toArray Q (pre.length + f) listed a w
  | [], listed, a, _, _, h => by rw [List.length_nil, Nat.zero_add]; exact h
  | i :: r, listed, a, hl, hB, h => by
    have hi : i < l.length := hl i (by simp)
    obtain ⟨o, ho⟩ : ∃ o, l[i]? = some o := ⟨_, List.getElem?_eq_getElem hi⟩
    rw [pick_at (t := []) ho] at h
    have ho' : l.toArray[i]? = some o := by simpa using ho
    simp only [prePB, Bool.and_eq_true] at hB
    obtain ⟨v, hy, hK⟩ := h
    rw [List.length_cons, show r.length + 1 + f = (r.length + f) + 1 by omega]
    refine wpAny_take ho' hsel hB.2.1 hB.1 (fun c a w => hQ c a _ _ w) (v := v) ?_ (wpAny_pre hsel hQ r _ _ (fun k hk => hl k (by simp [hk])) hB.2.2 hK)
    rcases hy with ⟨hw, hv⟩ | ⟨hw, hv⟩
    · exact .inl ⟨hw, fun w => hv w trivial⟩
    · exact .inr ⟨hw, hv⟩
def regPermB (ops : Array Oper) (pre rd mid : List Nat) (n d : Nat) : Bool :=
  Region.noSelect ops && (decide (pre.length + rd.length + mid.length = n) && (decide (n ≤ ops.size) && (transB .any ops d n pre && ((pre ++ rd ++ mid).all (fun i => decide (i < ops.size)) && (prePB .any ops pre (Array.replicate ops.size false) && (invB .any ops n (preL (Array.replicate ops.size false) pre) && (pre.all (fun k => (preL (Array.replicate ops.size false) pre).getD k true) && headPB .any ops n (ops.size - n) mid rd (preL (Array.replicate ops.size false) pre))))))))
/-- pre: operations that read nothing, taken ahead of all; rd: those that only read, in the order in which they are taken; mid: the others ahead of n, in their one order; n: how many these are; what stands from n on waits for all of them. d: how long a chain of waiting is. -/
theorem wp_region_perm {P : Program} {id : Nat} {Q : Exit → Act → World → Prop} {a : Act} {w : World} {l : List Oper} (pre rd mid : List Nat) (n d : Nat) (S : World → Prop) (hm : P.follows .mixedOrders = true) (hB : regPermB l.toArray pre rd mid n d = true)
    (hQ : ∀ c a t v w, Q (.panic c) (a.put (some t) v) w → Q (.panic c) a w) (hS : S w.drew)
    (h : wpHead P l.toArray (fun _ => True) (fun a0 => wpHead P l.toArray S (fun a' => wpMid P l.toArray Q S (wpList P l.toArray Q (l.drop n)) (pickL l mid) a' w.drew) (pickL l rd) a0) (pickL l pre) a) : (Code.region id l.toArray true).wp P Q a w := by
  simp only [regPermB, Bool.and_eq_true, decide_eq_true_eq, List.all_eq_true] at hB
  obtain ⟨hsel, hlen, hn, ht, hlt, hpr, hinv, hpin, hh⟩ := hB
  have hn' : n ≤ l.length := by simpa using hn
  have hdl : (l.drop n).length = l.toArray.size - n := by simp
  have hQ' : ∀ c a d v w, Q (.panic c) (a.put d v) w → Q (.panic c) a w := fun c a d v w h => by cases d with | none => exact h | some t => exact hQ c a t v w h
  refine wp_region_any hm ?_
  have H := wpAny_pre (P := P) (l := l) (Q := Q) (md := .any) (f := rd.length + mid.length + (l.toArray.size - n)) (w := w.drew) hsel hQ' pre (Array.replicate l.toArray.size false) a (fun i hi => by simpa using hlt i (by simp [hi])) hpr ?_
  · rw [show pre.length + (rd.length + mid.length + (l.toArray.size - n)) = l.toArray.size by omega] at H
    exact H
  · refine wpHead_mono (fun a0 h0 => ?_) h
    have H := wpAnyT_headP (md := .any) (g := l.toArray.size - n) hsel ht hQ' hS (fun i hi => by simpa using hlt i (by simp [hi])) rd _ a0 (fun i hi => by simpa using hlt i (by simp [hi])) (inv_of hinv) (fun k hk => hpin k hk) hh h0
    exact wpAny_of_T (Q := Q) (g := l.toArray.size - n) (fun listed' a' w' hL => by
      have := wpAny_of_seq (md := .any) (Q' := Q) (l.drop n) n listed' a' w' (fun j => by simp [List.getElem?_drop]) (by rw [hdl]; exact hL.1) hL.2
      rwa [hdl] at this) _ _ _ _ H
/-- The region, by single steps: n operations stand ahead, g behind. -/
theorem wp_region_phase {P : Program} {id : Nat} {Q : Exit → Act → World → Prop} {a : Act} {w : World} {l : List Oper} (pre : List Nat) (n g : Nat) (S : World → Prop) (hm : P.follows .mixedOrders = true) (hz : l.length = n + g)
    (d : Nat) (hNS : Region.noSelect l.toArray = true) (hTB : transB .any l.toArray d n pre = true) (hpl : (decide (pre.length ≤ n) && ((pre.all fun i => decide (i < l.toArray.size)) && prePB .any l.toArray pre (Array.replicate l.toArray.size false))) = true)
    (hQ : ∀ c a t v w, Q (.panic c) (a.put (some t) v) w → Q (.panic c) a w)
    (h : Hid (Region.noSelect l.toArray = true) → Hid (transB .any l.toArray d n pre = true) → wpHead P l.toArray (fun _ => True) (fun a0 => wpAnyT P .any l.toArray Q S n (DoneAt P .any l.toArray Q n g) (n - pre.length) (preL (Array.replicate l.toArray.size false) pre) a0 w.drew) (pickL l pre) a) : (Code.region id l.toArray true).wp P Q a w := by
  simp only [Bool.and_eq_true, decide_eq_true_eq, List.all_eq_true] at hpl
  have hz' : l.toArray.size = n + g := by simpa using hz
  refine wp_region_any hm ?_
  have H := wpAny_pre (P := P) (l := l) (Q := Q) (md := .any) (f := n - pre.length + g) (w := w.drew) hNS (fun c a d v w h => by cases d with | none => exact h | some t => exact hQ c a t v w h) pre (Array.replicate l.toArray.size false) a (fun i hi => by simpa using hpl.2.1 i hi) hpl.2.2 ?_
  · rw [show pre.length + (n - pre.length + g) = l.toArray.size by omega] at H
    exact H
  · refine wpHead_mono (fun a0 h0 => ?_) (h hNS hTB)
    exact wpAny_of_T (g := g) (fun listed a' w' hL => hL.2) _ _ _ _ h0
end Go.Proofs.YtjclhjijpailoaaGreatDoor

namespace Go.Proofs.YtjclhjijpailoaaGreatDoor
open Go.RowKit Law
set_option linter.unusedVariables false
set_option linter.unusedSimpArgs false
set_option maxRecDepth 100000

/-- An act that a maker makes, but for its body. -/
structure Fd where
  k : Int
  node : Int
  n : Int
  fk : Int
  fd : Int
  fa : Int
  deriving DecidableEq
def Fd.cells (a : Fd) (v : Value) : List Value := [.int .i64 a.k, .int .i64 a.node, .int .i64 a.n, .int .i64 a.fk, .int .i64 a.fd, .int .i64 a.fa, .int .u32 0, .int .u32 0, v]
/-- What a maker holds. -/
structure MS where
  dn : Nat
  fy : Nat
  sent : List Nat
  acts : List Fd
def flatA (l : List Fd) (vs : List Value) : List Value := (List.zipWith Fd.cells l vs).flatten
theorem flatA_snoc {l : List Fd} {vs : List Value} (h : l.length = vs.length) (a : Fd) (v : Value) : flatA (l ++ [a]) (vs ++ [v]) = flatA l vs ++ a.cells v := by
  unfold flatA
  rw [List.zipWith_append h]
  simp
def mkCell (c : Cn) (G : Nat) (dn fy : Nat) (sent : List Nat) (v : Value) : Nat → Option Value
  | 0 => some (.int .i64 c.n)
  | 2 => some (.int .i64 c.f)
  | 3 => some (.int .i64 c.dmin)
  | 4 => some (.int .i64 c.dmax)
  | 5 => some (.int .i64 c.rho)
  | 13 => some (.int .i64 c.quota)
  | 15 => some (.pointer (some ⟨G, 0, none⟩))
  | 16 => some (.int .u64 (dn : Int))
  | 17 => some (.int .u64 (fy : Int))
  | 82 => some v
  | o => if 18 ≤ o then (sent[o - 18]?).map fun (x : Nat) => Value.int .i64 (x : Int) else none
/-- A slice's header. -/
def IsSl (x : Value) : Prop := ∃ A n c, x = .slice A n c
theorem IsSl.one {x : Value} (h : IsSl x) : x.oneCell' = true := by
  obtain ⟨A, n, c, rfl⟩ := h
  rfl
structure MkV (w : World) (M base : Nat) (c : Cn) (G R : Nat) (near : List Nat) (S : MS) (v : Value) (vs : List Value) : Prop where
  cell : ∀ o x, mkCell c G S.dn S.fy S.sent v o = some x → w.cell? ⟨M, o, none⟩ = some x
  fz : ∀ o, o < 83 → w.frozen? ⟨M, o, none⟩ = false
  gr : GrAt w G R near
  neG : M ≠ G
  neR : M ≠ R
  lt : M < base ∧ G < base ∧ R < base
  own : w.ownsRow base 42 9 v S.acts.length (flatA S.acts vs)
  len : S.acts.length = vs.length
  one : ∀ x ∈ vs, IsSl x
  bits : S.dn < 18446744073709551616 ∧ S.fy < 18446744073709551616
  sl : S.sent.length = 64
  sb : ∀ x ∈ S.sent, x ≤ S.acts.length
  le : base ≤ w.heap.size
/-- What a maker's acts leave as it was: all below a base but the maker. -/
structure FrM (M base : Nat) (w w' : World) : Prop where
  os : w'.os = w.os
  tape : w'.tape = w.tape
  output : w'.output = w.output
  size : w.heap.size ≤ w'.heap.size
  block : ∀ k, k < base → k ≠ M → w'.heap[k]? = w.heap[k]?
theorem FrM.refl (M base : Nat) (w : World) : FrM M base w w := ⟨rfl, rfl, rfl, Nat.le_refl _, fun _ _ _ => rfl⟩
theorem FrM.trans {M base : Nat} {a b c : World} (h : FrM M base a b) (k : FrM M base b c) : FrM M base a c :=
  ⟨k.os.trans h.os, k.tape.trans h.tape, k.output.trans h.output, Nat.le_trans h.size k.size, fun i hi hn => (k.block i hi hn).trans (h.block i hi hn)⟩
theorem FrM.of {M base : Nat} {a b : World} (h : Below base a b) : FrM M base a b := ⟨h.os, h.tape, h.output, h.size, fun i hi _ => h.block i hi⟩
theorem FrM.below {M base : Nat} {a b : World} (h : FrM M base a b) (hm : M ≤ base) : Below M a b := ⟨h.os, h.tape, h.output, h.size, fun i hi => h.block i (by omega) (by omega)⟩
theorem FrM.set {M base : Nat} (w : World) (o : Nat) (v : Value) : FrM M base w (w.setCell ⟨M, o, none⟩ v) :=
  ⟨rfl, rfl, rfl, by simp, fun k _ hk => Below.heap_setCell _ _ _ k hk⟩
theorem cell_same {w w' : World} {b o : Nat} (h : w'.heap[b]? = w.heap[b]?) : w'.cell? ⟨b, o, none⟩ = w.cell? ⟨b, o, none⟩ := by
  simp only [World.cell?, h]
theorem frozen_same {w w' : World} {b o : Nat} (h : w'.heap[b]? = w.heap[b]?) : w'.frozen? ⟨b, o, none⟩ = w.frozen? ⟨b, o, none⟩ := by
  simp only [World.frozen?, h]
/-- Behind what leaves all below the base as it was, and the row. -/
theorem MkV.grown {w w' : World} {M base : Nat} {c : Cn} {G R : Nat} {near : List Nat} {S : MS} {v : Value} {vs : List Value} (h : MkV w M base c G R near S v vs) (hb : Below base w w') (ho : w'.ownsRow base 42 9 v S.acts.length (flatA S.acts vs)) : MkV w' M base c G R near S v vs :=
  ⟨fun o x hx => (cell_same (hb.block M h.lt.1)).trans (h.cell o x hx), fun o ho => (frozen_same (hb.block M h.lt.1)).trans (h.fz o ho), h.gr.kept (hb.block G h.lt.2.1) (hb.block R h.lt.2.2), h.neG, h.neR, h.lt, ho, h.len, h.one, h.bits, h.sl, h.sb, Nat.le_trans h.le hb.size⟩
theorem MkV.kept {w w' : World} {M base : Nat} {c : Cn} {G R : Nat} {near : List Nat} {S : MS} {v : Value} {vs : List Value} (h : MkV w M base c G R near S v vs) (hb : Below w.heap.size w w') : MkV w' M base c G R near S v vs :=
  h.grown (hb.mono h.le) (ownsRow_kept h.own hb)
/-- Behind a store into the maker. -/
theorem MkV.put {w W : World} {M base : Nat} {c : Cn} {G R : Nat} {near : List Nat} {S S' : MS} {v v' : Value} {vs vs' : List Value} (h : MkV w M base c G R near S v vs) (hb : Below base w W) (o : Nat) (x : Value) (ho : o < 83)
    (hc : mkCell c G S'.dn S'.fy S'.sent v' o = some x) (hr : ∀ q, q ≠ o → mkCell c G S'.dn S'.fy S'.sent v' q = mkCell c G S.dn S.fy S.sent v q)
    (hown : W.ownsRow base 42 9 v' S'.acts.length (flatA S'.acts vs')) (hlen : S'.acts.length = vs'.length) (h1 : ∀ x ∈ vs', IsSl x)
    (hbits : S'.dn < 18446744073709551616 ∧ S'.fy < 18446744073709551616) (hsl : S'.sent.length = 64) (hsb : ∀ x ∈ S'.sent, x ≤ S'.acts.length) (hin : ∃ y, mkCell c G S.dn S.fy S.sent v o = some y) : MkV (W.setCell ⟨M, o, none⟩ x) M base c G R near S' v' vs' := by
  have hcW : ∀ q y, mkCell c G S.dn S.fy S.sent v q = some y → W.cell? ⟨M, q, none⟩ = some y := fun q y hy => (cell_same (hb.block M h.lt.1)).trans (h.cell q y hy)
  refine ⟨fun q y hy => ?_, fun q hq => by rw [World.frozen?_setCell]; exact (frozen_same (hb.block M h.lt.1)).trans (h.fz q hq), ?_, h.neG, h.neR, h.lt, ?_, hlen, h1, hbits, hsl, hsb, by have := h.le; have := hb.size; simp; omega⟩
  · by_cases hq : q = o
    · subst hq
      obtain ⟨y0, hy0⟩ := hin
      rw [World.cell?_setCell_same' _ _ _ (by rw [hcW _ _ hy0]; rfl), ← hc, hy]
    · rw [World.cell?_setCell_other _ _ _ _ (by simp [hq])]
      exact hcW q y (by rw [← hr q hq]; exact hy)
  · exact (h.gr.kept (hb.block G h.lt.2.1) (hb.block R h.lt.2.2)).kept (Below.heap_setCell _ _ _ _ (fun e => h.neG e.symm)) (Below.heap_setCell _ _ _ _ (fun e => h.neR e.symm))
  · refine World.ownsRow.kept (row := some M) hown ⟨rfl, rfl, rfl, by simp, fun k _ hk => Below.heap_setCell _ _ _ k (fun e => hk (by rw [e]))⟩ ?_
    cases hv : v'.ownBlock with
    | none => exact .inl rfl
    | some g =>
      refine .inr fun e => ?_
      have h2 := (hown.lt g hv).1
      have h3 := h.lt.1
      injection e
      omega
end Go.Proofs.YtjclhjijpailoaaGreatDoor

namespace Go.Proofs.YtjclhjijpailoaaGreatDoor
open Go.RowKit Law
set_option linter.unusedVariables false
set_option linter.unusedSimpArgs false
set_option maxRecDepth 100000

theorem actInfo : (Tryz.prog.info? 42).map (fun i => (i.zero, i.size, i.bytes)) = some (some (.agg #[.int .i64 0, .int .i64 0, .int .i64 0, .int .i64 0, .int .i64 0, .int .i64 0, .int .u32 0, .int .u32 0, .slice none 0 0]), 9, 80) := by kernel_rfl
def MkAt (w : World) (M base : Nat) (c : Cn) (G R : Nat) (near : List Nat) (S : MS) : Prop := ∃ v vs, MkV w M base c G R near S v vs
def MS.add (S : MS) (a : Fd) : MS := { S with acts := S.acts ++ [a] }
def MkPost (w : World) (M base : Nat) (c : Cn) (G R : Nat) (near : List Nat) (S' : MS) (e : Ending) (w' : World) : Prop := e = .returned (.tuple #[]) ∧ MkAt w' M base c G R near S' ∧ FrM M base w w'
set_option maxHeartbeats 3200000 in
theorem famAct {w : World} {M base : Nat} {c : Cn} {G R : Nat} {near : List Nat} {S : MS} (h : MkAt w M base c G R near S) (a : Fd) (x : Value) (hx : IsSl x) (hl : S.acts.length ≤ 1000000) :
    Calls Tryz.prog 23 #[.pointer (some ⟨M, 0, none⟩), .agg (a.cells x).toArray] w (MkPost w M base c G R near (S.add a)) := by
  obtain ⟨v, vs, h⟩ := h
  obtain ⟨i0, hi, hz0, hz1, hz2⟩ := info_parts actInfo
  have hb1 := (Below.refl w.heap.size w).alloc (Nat.le_refl _) (.cells (a.cells x).toArray 42)
  have h1 := h.kept hb1
  have kb := boxF_made w (a.cells x) 42
  have hsz : (w.alloc (.cells (a.cells x).toArray 42)).heap.size = w.heap.size + 1 := by simp
  obtain ⟨A1, c1, rfl, hc1⟩ := (OwnOr.form (.inl h.own) : ∃ A c, v = .slice A S.acts.length c ∧ S.acts.length ≤ c)
  have hrow : (Value.slice A1 S.acts.length c1).ownBlock ≠ some w.heap.size := fun e => by have := (h.own.lt _ e).2; omega
  obtain ⟨w1, hw1⟩ : ∃ w1, w.alloc (.cells (a.cells x).toArray 42) = w1 := ⟨_, rfl⟩
  rw [hw1] at hb1 h1 kb hsz
  have hle := h1.le
  have hS : ∀ W, Below base w1 W ∧ W.heap[w.heap.size]? = w1.heap[w.heap.size]? → W.cell? ⟨M, 82, none⟩ = some (.slice A1 S.acts.length c1) ∧ BoxF W w.heap.size (a.cells x) := fun W hW =>
    ⟨(cell_same (hW.1.block M h1.lt.1)).trans (h1.cell 82 _ rfl), ⟨fun k y hy => (cell_same hW.2).trans (kb.1 k y hy), fun k hk => (frozen_same hW.2).trans (kb.2 k hk)⟩⟩
  have HS := Lib.hid hS
  have HH := Lib.hid (And.intro h (And.intro h1 hb1))
  have HR := Lib.hid hrow
  have HZ := Lib.hid hsz
  obtain ⟨ak, an, ann, afk, afd, afa⟩ := a
  unfold Fd.cells at hw1
  clear hS h h1 hb1 hrow kb hsz
  go_enter Tryz.func23, Tryz.ntmps23
  unfold Fd.cells
  go_wp2_with fail
  refine wp_region_perm [] [0, 1, 2, 3, 4, 5] [6, 7] 8 12 (fun W => Below base w1 W ∧ W.heap[w.heap.size]? = w1.heap[w.heap.size]?) (by kernel_rfl) (by kernel_rfl) (by intro c a t v w h; exact h) ⟨(Below.refl _ _).drew, rfl⟩ ?_
  simp only [pickL, List.drop_succ_cons, List.drop_zero, List.head?_cons, Option.toList_some, List.cons_append, List.nil_append]
  refine wpHead_nil ?_
  iterate 6 (refine wpHead_step _ (by rfl) (by intro W hW; obtain ⟨z, zb⟩ := HS.out W hW; have z0 := zb.1 0 _ rfl; have z1 := zb.1 1 _ rfl; have z2 := zb.1 2 _ rfl; have z3 := zb.1 3 _ rfl; have z4 := zb.1 4 _ rfl; have z5 := zb.1 5 _ rfl; have z6 := zb.1 6 _ rfl; have z7 := zb.1 7 _ rfl; have z8 := zb.1 8 _ rfl; clear zb hW; go_simp; with_reducible rfl) ?_; simp only [Act.put, List.setIfInBounds_toArray, List.set_cons_zero, List.set_cons_succ])
  refine wpHead_nil ?_
  have HS1 : Hid (Below base w1 ((w1.alloc (.cells #[.int .i64 ak, .int .i64 an, .int .i64 ann, .int .i64 afk, .int .i64 afd, .int .i64 afa, .int .u32 0, .int .u32 0, x] 42)).drew) ∧ ((w1.alloc (.cells #[.int .i64 ak, .int .i64 an, .int .i64 ann, .int .i64 afk, .int .i64 afd, .int .i64 afa, .int .u32 0, .int .u32 0, x] 42)).drew).heap[w.heap.size]? = w1.heap[w.heap.size]?) := by
    refine ⟨((Below.refl _ _).alloc hle _).drew, ?_⟩
    exact (((Below.refl w1.heap.size w1).alloc (Nat.le_refl _) _).drew).block _ (by rw [HZ.out]; omega)
  have HB2 : Hid (((w1.alloc (.cells #[.int .i64 ak, .int .i64 an, .int .i64 ann, .int .i64 afk, .int .i64 afd, .int .i64 afa, .int .u32 0, .int .u32 0, x] 42)).drew).ownsRow base 42 9 (.slice A1 S.acts.length c1) S.acts.length (flatA S.acts vs) ∧ ((w1.alloc (.cells #[.int .i64 ak, .int .i64 an, .int .i64 ann, .int .i64 afk, .int .i64 afd, .int .i64 afa, .int .u32 0, .int .u32 0, x] 42)).drew).heap[w1.heap.size]? = some (.cells #[.int .i64 ak, .int .i64 an, .int .i64 ann, .int .i64 afk, .int .i64 afd, .int .i64 afa, .int .u32 0, .int .u32 0, x] 42 (0, 0))) := by
    refine ⟨ownsRow_kept HH.out.2.1.own (((Below.refl w1.heap.size w1).alloc (Nat.le_refl _) _).drew), ?_⟩
    exact heap_alloc_new w1 _
  refine ⟨by rfl, ?_⟩
  go_simp
  refine ⟨HS1.out, by rfl, ?_⟩
  obtain ⟨w2, hw2⟩ : ∃ w2, (w1.alloc (.cells #[.int .i64 ak, .int .i64 an, .int .i64 ann, .int .i64 afk, .int .i64 afd, .int .i64 afa, .int .u32 0, .int .u32 0, x] 42)).drew = w2 := ⟨_, rfl⟩
  rw [hw2] at HS1 HB2 ⊢
  refine wp_append_lies w2 _ _ 36 (by rfl) base 42 i0 _ 9 80 Tryz.underlying36 hi hz0 hz1 hz2 rfl (by decide) (.slice A1 S.acts.length c1) S.acts.length (flatA S.acts vs) (by rfl) HB2.out.1 ⟨w1.heap.size, 0, none⟩ 1 1 [.int .i64 ak, .int .i64 an, .int .i64 ann, .int .i64 afk, .int .i64 afd, .int .i64 afa, .int .u32 0, .int .u32 0, x] (by rfl) (by rfl) (World.news_of_block HB2.out.2) ?_ (by decide) (by unfold maxLen; omega) (by omega) (Nat.le_trans hle HS1.out.1.size) _ rfl ?_
  · intro u hu
    simp only [List.mem_cons, List.not_mem_nil, or_false] at hu
    rcases hu with rfl | rfl | rfl | rfl | rfl | rfl | rfl | rfl | rfl <;> first | rfl | exact hx.one
  intro g cap w3 hown hgrow hat hlt3
  have hbl : Below base w1 w3 := HS1.out.1.grown hgrow (Nat.le_trans hle HS1.out.1.size) (fun j hj => (HH.out.1.own.lt j hj).1)
  have hbx : w3.heap[w.heap.size]? = w1.heap[w.heap.size]? := (hgrow.block w.heap.size (by have := HS1.out.1.size; rw [HZ.out] at this; omega) (fun e => HR.out e.symm)).trans HS1.out.2
  refine ⟨⟨hbl, hbx⟩, ?_⟩
  refine wpMid_nil ?_
  have k82 : w3.cell? ⟨M, 82, none⟩ = some (.slice A1 S.acts.length c1) := (cell_same (hbl.block M HH.out.1.lt.1)).trans (HH.out.2.1.cell 82 _ rfl)
  have f82 : w3.frozen? ⟨M, 82, none⟩ = false := (frozen_same (hbl.block M HH.out.1.lt.1)).trans (HH.out.2.1.fz 82 (by omega))
  have HW : Hid (MkAt (w3.setCell ⟨M, 82, none⟩ (.slice (some ⟨g, 0, none⟩) (S.acts.length + 1) cap)) M base c G R near (S.add ⟨ak, an, ann, afk, afd, afa⟩) ∧ FrM M base w (w3.setCell ⟨M, 82, none⟩ (.slice (some ⟨g, 0, none⟩) (S.acts.length + 1) cap))) := by
    have hlen := HH.out.1.len
    refine ⟨⟨_, vs ++ [x], HH.out.2.1.put hbl 82 _ (by omega) rfl (fun q hq => ?_) ?_ ?_ ?_ HH.out.1.bits HH.out.1.sl (fun y hy => by have := HH.out.1.sb y hy; simp [MS.add]; omega) ⟨_, rfl⟩⟩, ((FrM.of (HH.out.2.2.mono HH.out.1.le)).trans (FrM.of hbl)).trans (FrM.set w3 82 _)⟩
    · unfold mkCell MS.add
      split <;> first | rfl | (exact absurd rfl hq)
    · show w3.ownsRow base _ 9 _ (S.acts ++ [_]).length (flatA (S.acts ++ [_]) (vs ++ [x]))
      rw [flatA_snoc hlen, List.length_append]
      exact hown
    · simp [MS.add, hlen]
    · intro y hy
      rcases List.mem_append.1 hy with hy | hy
      · exact HH.out.1.one y hy
      · simp at hy; subst hy; exact hx
  clear hown hgrow hat hlt3 hbl hbx hle
  go_wp2
  go_end0
  exact ⟨rfl, HW.out⟩
end Go.Proofs.YtjclhjijpailoaaGreatDoor

namespace Go.Proofs.YtjclhjijpailoaaGreatDoor
open Go.RowKit Law
set_option linter.unusedVariables false
set_option linter.unusedSimpArgs false
set_option maxRecDepth 100000

theorem famTick {w : World} {M base : Nat} {c : Cn} {G R : Nat} {near : List Nat} {S : MS} (h : MkAt w M base c G R near S) (n : Int) (hl : S.acts.length ≤ 1000000) :
    Calls Tryz.prog 18 #[.pointer (some ⟨M, 0, none⟩), .int .i64 n] w (MkPost w M base c G R near (S.add ⟨1, 0, n, 0, 0, 0⟩)) := by
  have C := famAct h ⟨1, 0, n, 0, 0, 0⟩ (.slice none 0 0) ⟨_, _, _, rfl⟩ hl
  unfold Fd.cells at C
  have C := Lib.hid C
  clear h hl
  go_enter Tryz.func18, Tryz.ntmps18
  go_wp2_with fail
  refine C.out.mono ?_
  rintro e w' ⟨rfl, h⟩
  have H := Lib.hid h
  clear h
  go_wp2
  go_end0
  exact ⟨rfl, H.out⟩
theorem famAbout {w : World} {M base : Nat} {c : Cn} {G R : Nat} {near : List Nat} {S : MS} (h : MkAt w M base c G R near S) (k i : Int) (hl : S.acts.length ≤ 1000000) :
    Calls Tryz.prog 41 #[.pointer (some ⟨M, 0, none⟩), .int .i64 k, .int .i64 i] w (MkPost w M base c G R near (S.add ⟨k, i, 0, 0, 0, 0⟩)) := by
  have C := famAct h ⟨k, i, 0, 0, 0, 0⟩ (.slice none 0 0) ⟨_, _, _, rfl⟩ hl
  unfold Fd.cells at C
  have C := Lib.hid C
  clear h hl
  go_enter Tryz.func41, Tryz.ntmps41
  go_wp2_with fail
  refine C.out.mono ?_
  rintro e w' ⟨rfl, h⟩
  have H := Lib.hid h
  clear h
  go_wp2
  go_end0
  exact ⟨rfl, H.out⟩
theorem MkV.sent_at {w : World} {M base : Nat} {c : Cn} {G R : Nat} {near : List Nat} {S : MS} {v : Value} {vs : List Value} (h : MkV w M base c G R near S v vs) {i : Nat} (hi : i < 64) : w.cell? ⟨M, 18 + i, none⟩ = some (.int .i64 ((S.sent.getD i 0 : Nat) : Int)) := by
  refine h.cell (18 + i) _ ?_
  have hs : i < S.sent.length := by rw [h.sl]; exact hi
  have e : mkCell c G S.dn S.fy S.sent v (18 + i) = (S.sent[i]?).map fun (x : Nat) => Value.int .i64 (x : Int) := by
    unfold mkCell
    split <;> first | omega | (rw [if_pos (by omega), Nat.add_sub_cancel_left])
  rw [e, List.getElem?_eq_getElem hs]
  simp [hs]
def sureB (c : Cn) (S : MS) (i : Nat) : Bool := !hasB S.fy (i : Int) && decide (((S.sent.getD i 0 : Nat) : Int) < min c.quota 32)
theorem famSure {w : World} {M base : Nat} {c : Cn} {G R : Nat} {near : List Nat} {S : MS} (h : MkAt w M base c G R near S) (i : Nat) (hi : i < 64) :
    Calls Tryz.prog 19 #[.pointer (some ⟨M, 0, none⟩), .int .i64 (i : Int)] w fun e w' => e = .returned (.bool (sureB c S i)) ∧ ∃ n, w' = w.drewN n := by
  obtain ⟨v, vs, h⟩ := h
  have C := Lib.hid (fun W => nodesHas S.fy h.bits.2 (i : Int) (by omega) (by omega) W)
  have c13 := h.cell 13 _ rfl
  have c17 := h.cell 17 _ rfl
  have cs := h.sent_at hi
  have HB : Hid (sureB c S i = (!hasB S.fy (i : Int) && decide (((S.sent.getD i 0 : Nat) : Int) < min c.quota 32))) := rfl
  generalize S.sent.getD i 0 = x at *
  have i0 : (0 : Int) ≤ (i : Int) := by omega
  have i1 : (i : Int) < 64 := by omega
  have i2 : ((i : Int)).toNat = i := by omega
  generalize hq : hasB S.fy (i : Int) = q at *
  clear hq h
  cases q
  · go_enter Tryz.func19, Tryz.ntmps19
    go_wp2_with fail
    go_quiet ((go_at_call 17; exact Calls.quiet_of_same (C.out _)))
    go_wp2
    all_goals
      go_ret
      exact ⟨ret_bool (by rw [HB.out, Bool.not_false, Bool.true_and, decide_eq_decide] <;> omega), _, rfl⟩
  · go_enter Tryz.func19, Tryz.ntmps19
    go_wp2_with fail
    go_quiet ((go_at_call 17; exact Calls.quiet_of_same (C.out _)))
    go_wp2
    all_goals
      go_ret
      exact ⟨ret_bool (by rw [HB.out]; rfl), _, rfl⟩
def moreB (c : Cn) (S : MS) : Bool := decide (((els S.fy).length : Int) < c.f)
theorem famMore {w : World} {M base : Nat} {c : Cn} {G R : Nat} {near : List Nat} {S : MS} (h : MkAt w M base c G R near S) :
    Calls Tryz.prog 25 #[.pointer (some ⟨M, 0, none⟩)] w fun e w' => e = .returned (.bool (moreB c S)) ∧ ∃ n, w' = w.drewN n := by
  obtain ⟨v, vs, h⟩ := h
  have C := Lib.hid (fun W => nodesCount S.fy h.bits.2 W)
  have c2 := h.cell 2 _ rfl
  have c17 := h.cell 17 _ rfl
  have HB : Hid (moreB c S = decide (((els S.fy).length : Int) < c.f)) := rfl
  generalize (els S.fy).length = x at *
  clear h
  go_enter Tryz.func25, Tryz.ntmps25
  go_wp2_with fail
  go_quiet ((go_at_call 8; exact Calls.quiet_of_same (C.out _)))
  go_wp2
  go_ret
  exact ⟨ret_bool (by rw [HB.out]), _, rfl⟩
/-- A fate, as a value. -/
def ftV (x : Int × Int × Int) : Value := .agg #[.int .i64 x.1, .int .i64 x.2.1, .int .i64 x.2.2, .int .u32 0, .int .u32 0]
def quickN (c : Cn) (k : Nat) : Int × Int × Int := if k % 2 = 1 then (2, c.dmin, c.dmax) else (0, c.dmin, 0)
def amidN (c : Cn) (k links : Nat) : Int × Int × Int := if k < (links + 1) / 2 then (1, 0, 0) else (0, c.dmax, 0)
def FtPost (x : Int × Int × Int) (w : World) (e : Ending) (w' : World) : Prop := e = .returned (ftV x) ∧ Below w.heap.size w w'
theorem famQuick {w : World} {M base : Nat} {c : Cn} {G R : Nat} {near : List Nat} {S : MS} (h : MkAt w M base c G R near S) (k links : Nat) (hk : k < 64) (hl : links ≤ 64) :
    Calls Tryz.prog 21 #[.pointer (some ⟨M, 0, none⟩), .int .i64 (k : Int), .int .i64 (links : Int)] w (FtPost (quickN c k) w) := by
  obtain ⟨v, vs, h⟩ := h
  have hb1 := (Below.refl w.heap.size w).alloc (Nat.le_refl _) (.cells #[.int .i64 0, .int .i64 0, .int .i64 0, .int .u32 0, .int .u32 0] 40)
  have h1 := h.kept hb1
  have c3 := h1.cell 3 _ rfl
  have c4 := h1.cell 4 _ rfl
  have HB := Lib.hid hb1
  have HC := Lib.hid (And.intro c3 c4)
  have d3 := h.cell 3 _ rfl
  have d4 := h.cell 4 _ rfl
  have hlt : M < w.heap.size := Nat.lt_of_lt_of_le h.lt.1 h.le
  have hne : M ≠ w.heap.size := by omega
  clear h h1 hb1 c3 c4
  by_cases hq : k % 2 = 1
  · have HQ : Hid (quickN c k = (2, c.dmin, c.dmax)) := by unfold Hid quickN; rw [if_pos hq]
    have hq2 : (k : Int) % 2 = 1 := by omega
    have hk2 : (k : Int) < 64 := by omega
    clear hq
    go_enter Tryz.func21, Tryz.ntmps21
    go_wp2_with fail
    refine wp_region_perm [] [0, 1, 2, 3, 4, 5, 6, 7, 8, 9, 10] [] 11 14 (fun W => W.cell? ⟨M, 3, none⟩ = some (.int .i64 c.dmin) ∧ W.cell? ⟨M, 4, none⟩ = some (.int .i64 c.dmax)) (by kernel_rfl) (by kernel_rfl) (by intro c a t v w h; exact h) HC.out ?_
    simp only [pickL, List.drop_succ_cons, List.drop_zero, List.head?_cons, Option.toList_some, List.cons_append, List.nil_append]
    refine wpHead_nil ?_
    iterate 11 (refine wpHead_step _ (by rfl) (by rintro W ⟨z3, z4⟩; go_simp; with_reducible rfl) ?_; simp only [Act.put, List.setIfInBounds_toArray, List.set_cons_zero, List.set_cons_succ])
    refine wpHead_nil (wpMid_nil ?_)
    go_wp2
    refine bodyPost_ret (v := ftV (2, c.dmin, c.dmax)) (by simp [results, Tryz.results21, go_sem, ftV]) rfl ⟨by rw [HQ.out], ?_⟩
    repeat (first | exact Below.refl _ _ | (refine Below.setCell ?_ (by simp) _) | (refine Below.drew ?_) | (refine Below.alloc ?_ (by simp) _))
  · have HQ : Hid (quickN c k = (0, c.dmin, 0)) := by unfold Hid quickN; rw [if_neg hq]
    have hq2 : ((k : Int) % 2 == 1) = false := by rw [beq_eq_false_iff_ne]; omega
    have hk2 : (k : Int) < 64 := by omega
    clear hq
    go_enter Tryz.func21, Tryz.ntmps21
    go_wp2
    refine bodyPost_ret (v := ftV (0, c.dmin, 0)) (by simp [results, Tryz.results21, go_sem, ftV]) rfl ⟨by rw [HQ.out], ?_⟩
    repeat (first | exact Below.refl _ _ | (refine Below.setCell ?_ (by simp) _) | (refine Below.drew ?_) | (refine Below.alloc ?_ (by simp) _))
theorem famAmid {w : World} {M base : Nat} {c : Cn} {G R : Nat} {near : List Nat} {S : MS} (h : MkAt w M base c G R near S) (k links : Nat) (hk : k < 64) (hl : links ≤ 64) :
    Calls Tryz.prog 27 #[.pointer (some ⟨M, 0, none⟩), .int .i64 (k : Int), .int .i64 (links : Int)] w (FtPost (amidN c k links) w) := by
  obtain ⟨v, vs, h⟩ := h
  have d4 := h.cell 4 _ rfl
  have hlt : M < w.heap.size := Nat.lt_of_lt_of_le h.lt.1 h.le
  have hne : M ≠ w.heap.size := by omega
  have hl2 : (links : Int) ≤ 64 := by omega
  have hk2 : (k : Int) < 64 := by omega
  clear h
  by_cases hq : k < (links + 1) / 2
  · have HQ : Hid (amidN c k links = (1, 0, 0)) := by unfold Hid amidN; rw [if_pos hq]
    have hq2 : (k : Int) < ((links : Int) + 1) / 2 := by omega
    clear hq
    go_enter Tryz.func27, Tryz.ntmps27
    go_wp2
    refine bodyPost_ret (v := ftV (1, 0, 0)) (by simp [results, Tryz.results27, go_sem, ftV]) rfl ⟨by rw [HQ.out], ?_⟩
    repeat (first | exact Below.refl _ _ | (refine Below.setCell ?_ (by simp) _) | (refine Below.drew ?_) | (refine Below.alloc ?_ (by simp) _))
  · have HQ : Hid (amidN c k links = (0, c.dmax, 0)) := by unfold Hid amidN; rw [if_neg hq]
    have hq2 : ¬ (k : Int) < ((links : Int) + 1) / 2 := by omega
    clear hq
    go_enter Tryz.func27, Tryz.ntmps27
    go_wp2
    refine bodyPost_ret (v := ftV (0, c.dmax, 0)) (by simp [results, Tryz.results27, go_sem, ftV]) rfl ⟨by rw [HQ.out], ?_⟩
    repeat (first | exact Below.refl _ _ | (refine Below.setCell ?_ (by simp) _) | (refine Below.drew ?_) | (refine Below.alloc ?_ (by simp) _))
end Go.Proofs.YtjclhjijpailoaaGreatDoor

namespace Go.Proofs.YtjclhjijpailoaaGreatDoor
open Go.RowKit Law
set_option linter.unusedVariables false
set_option linter.unusedSimpArgs false
set_option maxRecDepth 100000

theorem MkAt.kept {w w' : World} {M base : Nat} {c : Cn} {G R : Nat} {near : List Nat} {S : MS} (h : MkAt w M base c G R near S) (hb : Below w.heap.size w w') : MkAt w' M base c G R near S := by
  obtain ⟨v, vs, h⟩ := h
  exact ⟨v, vs, h.kept hb⟩
theorem MkAt.le {w : World} {M base : Nat} {c : Cn} {G R : Nat} {near : List Nat} {S : MS} (h : MkAt w M base c G R near S) : base ≤ w.heap.size := by
  obtain ⟨v, vs, h⟩ := h
  exact h.le
theorem MkPost.from {w w1 : World} {M base : Nat} {c : Cn} {G R : Nat} {near : List Nat} {S' : MS} {e : Ending} {w' : World} (hb : Below base w w1) (h : MkPost w1 M base c G R near S' e w') : MkPost w M base c G R near S' e w' :=
  ⟨h.1, h.2.1, (FrM.of hb).trans h.2.2⟩
def MS.count (S : MS) (i : Nat) : MS := { S with sent := S.sent.set i (S.sent.getD i 0 + 1) }
theorem mkCell_sent (c : Cn) (G dn fy : Nat) (sent : List Nat) (v : Value) {i : Nat} (hi : i < 64) : mkCell c G dn fy sent v (18 + i) = (sent[i]?).map fun (x : Nat) => Value.int .i64 (x : Int) := by
  unfold mkCell
  split <;> first | omega | (rw [if_pos (by omega), Nat.add_sub_cancel_left])
theorem mkCell_sent_set (c : Cn) (G dn fy : Nat) (sent : List Nat) (v : Value) {i : Nat} (x : Nat) (hi : i < 64) (q : Nat) (hq : q ≠ 18 + i) : mkCell c G dn fy (sent.set i x) v q = mkCell c G dn fy sent v q := by
  unfold mkCell
  split <;> first | rfl | (split <;> first | rfl | (rw [List.getElem?_set_ne (by omega)]))
/-- One more was sent: the count is stored. -/
theorem MkV.counted {w W : World} {M base : Nat} {c : Cn} {G R : Nat} {near : List Nat} {S : MS} {v : Value} {vs : List Value} (h : MkV w M base c G R near S v vs) (hb : Below w.heap.size w W) {i : Nat} (hi : i < 64) (hs : S.sent.getD i 0 + 1 ≤ S.acts.length) :
    MkV (W.setCell ⟨M, 18 + i, none⟩ (.int .i64 ((S.sent.getD i 0 + 1 : Nat) : Int))) M base c G R near (S.count i) v vs := by
  have hlen : i < S.sent.length := by rw [h.sl]; exact hi
  refine h.put (hb.mono h.le) (18 + i) _ (by omega) ?_ (fun q hq => mkCell_sent_set _ _ _ _ _ _ _ hi q hq) (ownsRow_kept h.own hb) h.len h.one h.bits (by simp [MS.count, h.sl]) ?_ ⟨.int .i64 (S.sent[i] : Int), ?_⟩
  · rw [mkCell_sent _ _ _ _ _ _ hi]
    simp [MS.count, hlen]
  · intro y hy
    rcases List.mem_or_eq_of_mem_set hy with hy | rfl
    · exact h.sb y hy
    · exact hs
  · rw [mkCell_sent _ _ _ _ _ _ hi, List.getElem?_eq_getElem hlen]
    rfl
def sendN (S : MS) (i : Nat) : MS := (S.add ⟨6, i, 0, 0, 0, 0⟩).count i
set_option maxHeartbeats 3200000 in
theorem famSend {w : World} {M base : Nat} {c : Cn} {G R : Nat} {near : List Nat} {S : MS} (h : MkAt w M base c G R near S) (i b : Nat) (hi : i < 64) (hl : S.acts.length ≤ 1000000) :
    Calls Tryz.prog 22 #[.pointer (some ⟨M, 0, none⟩), .int .i64 (i : Int), .int .u8 (b : Int)] w (MkPost w M base c G R near (sendN S i)) := by
  have hb1 := (Below.refl w.heap.size w).alloc (Nat.le_refl _) (.cells #[.int .u8 (b : Int)] 5)
  have C := famAct (h.kept hb1) ⟨6, i, 0, 0, 0, 0⟩ (.slice (some ⟨w.heap.size, 0, none⟩) 1 1) ⟨_, _, _, rfl⟩ hl
  unfold Fd.cells at C
  have C := Lib.hid C
  have HB := Lib.hid (hb1.mono h.le)
  have HC : Hid (∃ x, S.sent.getD i 0 = x ∧ x ≤ S.acts.length) := by
    obtain ⟨v, vs, h⟩ := h
    have hs : i < S.sent.length := by rw [h.sl]; exact hi
    refine ⟨_, rfl, ?_⟩
    rw [List.getD_eq_getElem?_getD, List.getElem?_eq_getElem hs]
    exact h.sb _ (List.getElem_mem hs)
  have i0 : (0 : Int) ≤ (i : Int) := by omega
  have i1 : (i : Int) < 64 := by omega
  have i2 : ((i : Int)).toNat = i := by omega
  clear h hb1
  go_enter Tryz.func22, Tryz.ntmps22
  go_wp2_with fail
  refine C.out.mono ?_
  rintro e w' ⟨rfl, h1, hf⟩
  obtain ⟨v, vs, h1⟩ := h1
  have cs := h1.sent_at hi
  have fs := h1.fz (18 + i) (by omega)
  have HF := Lib.hid (And.intro h1 ((FrM.of HB.out).trans hf))
  have HX : Hid ((S.add ⟨6, i, 0, 0, 0, 0⟩).sent.getD i 0 = S.sent.getD i 0) := rfl
  rw [HX.out] at cs
  obtain ⟨x, hx, hxl⟩ := HC.out
  rw [hx] at cs
  have hx2 : (x : Int) ≤ 1000000 := by omega
  have HXX := Lib.hid (And.intro hx hxl)
  clear h1 hf hx hxl
  go_wp2_with fail
  refine wp_region_perm [] [0, 1, 2, 3, 4, 5, 6, 7, 8, 9] [] 10 14 (fun W => W.cell? ⟨M, 18 + i, none⟩ = some (.int .i64 (x : Int))) (by kernel_rfl) (by kernel_rfl) (by intro c a t v w h; exact h) cs ?_
  simp only [pickL, List.drop_succ_cons, List.drop_zero, List.head?_cons, Option.toList_some, List.cons_append, List.nil_append]
  refine wpHead_nil ?_
  iterate 10 (refine wpHead_step _ (by rfl) (by rintro W z; go_simp; with_reducible rfl) ?_; simp only [Act.put, List.setIfInBounds_toArray, List.set_cons_zero, List.set_cons_succ])
  refine wpHead_nil (wpMid_nil ?_)
  have HE : Hid (MkPost w M base c G R near (sendN S i) (.returned (.tuple #[])) (w'.drew.setCell ⟨M, 18 + i, none⟩ (.int .i64 ((x : Int) + 1)))) := by
    obtain ⟨hx, hxl⟩ := HXX.out
    have h2 := HF.out.1.counted ((Below.refl w'.heap.size w').drew) hi (by show S.sent.getD i 0 + 1 ≤ (S.acts ++ [_]).length; rw [List.length_append, hx]; simp; exact hxl)
    rw [HX.out, hx] at h2
    exact ⟨rfl, ⟨_, _, h2⟩, (HF.out.2.trans (FrM.of (Below.refl _ _).drew)).trans (FrM.set _ _ _)⟩
  go_wp2
  go_end0
  exact HE.out

theorem without_one (s b : Nat) (hb : b < 64) : withoutN s [(b : Int)] = s ^^^ (s &&& 2 ^ b) := by
  have h : (b : Int) < 64 := by omega
  simp [withoutN, bitN, h]
theorem without1 (s b : Nat) (hs : s < 18446744073709551616) (hb : b < 64) (B : Nat) (W : World) (hc : W.cell? ⟨B, 0, none⟩ = some (.int .i64 (b : Int))) :
    Calls Tryz.prog 40 #[.int .u64 (s : Int), .slice (some ⟨B, 0, none⟩) 1 1] W fun e w' => e = .returned (.int .u64 ((s ^^^ (s &&& 2 ^ b) : Nat) : Int)) ∧ W = w' := by
  have h := nodesWithout s hs (some ⟨B, 0, none⟩) 1 [(b : Int)] (n := 1) rfl (by omega) (fun x hx => by simp at hx; subst hx; omega) W (fun k z hz => by
    match k, hz with
    | 0, hz => simp at hz; subst hz; exact ⟨B, 0, rfl, World.block_lt_of_cell? _ _ hc, hc⟩)
  rw [without_one s b hb] at h
  exact h
def MS.down (S : MS) (d : Nat) : MS := { S with dn := d }
def MS.faulty (S : MS) (d : Nat) : MS := { S with fy := d }
theorem MkV.downed {w W : World} {M base : Nat} {c : Cn} {G R : Nat} {near : List Nat} {S : MS} {v : Value} {vs : List Value} (h : MkV w M base c G R near S v vs) (hb : Below w.heap.size w W) (d : Nat) (hd : d < 18446744073709551616) :
    MkV (W.setCell ⟨M, 16, none⟩ (.int .u64 (d : Int))) M base c G R near (S.down d) v vs := by
  refine h.put (hb.mono h.le) 16 _ (by omega) rfl (fun q hq => ?_) (ownsRow_kept h.own hb) h.len h.one ⟨hd, h.bits.2⟩ h.sl h.sb ⟨_, rfl⟩
  unfold mkCell MS.down
  split <;> first | rfl | (exact absurd rfl hq)
theorem MkV.faultied {w W : World} {M base : Nat} {c : Cn} {G R : Nat} {near : List Nat} {S : MS} {v : Value} {vs : List Value} (h : MkV w M base c G R near S v vs) (hb : Below w.heap.size w W) (d : Nat) (hd : d < 18446744073709551616) :
    MkV (W.setCell ⟨M, 17, none⟩ (.int .u64 (d : Int))) M base c G R near (S.faulty d) v vs := by
  refine h.put (hb.mono h.le) 17 _ (by omega) rfl (fun q hq => ?_) (ownsRow_kept h.own hb) h.len h.one ⟨h.bits.1, hd⟩ h.sl h.sb ⟨_, rfl⟩
  unfold mkCell MS.faulty
  split <;> first | rfl | (exact absurd rfl hq)
def riseN (S : MS) (i : Nat) : MS := ((S.down (S.dn ^^^ (S.dn &&& 2 ^ i))).add ⟨5, i, 0, 0, 0, 0⟩).add ⟨7, i, 0, 0, 0, 0⟩
set_option maxHeartbeats 3200000 in
theorem famRise {w : World} {M base : Nat} {c : Cn} {G R : Nat} {near : List Nat} {S : MS} (h : MkAt w M base c G R near S) (i : Nat) (hi : i < 64) (hl : S.acts.length ≤ 999999) :
    Calls Tryz.prog 24 #[.pointer (some ⟨M, 0, none⟩), .int .i64 (i : Int)] w (MkPost w M base c G R near (riseN S i)) := by
  obtain ⟨v, vs, h⟩ := h
  have c16 := h.cell 16 _ rfl
  have f16 := h.fz 16 (by omega)
  have hb1 := (Below.refl w.heap.size w).alloc (Nat.le_refl _) (.cells #[.int .i64 (i : Int)] 3)
  have h1 := h.kept hb1
  have hd : S.dn ^^^ (S.dn &&& 2 ^ i) < 18446744073709551616 := andNot_lt h.bits.1
  have h2 := h1.downed (Below.refl _ _) (S.dn ^^^ (S.dn &&& 2 ^ i)) hd
  have C0 := Lib.hid (fun (B : Nat) (W : World) hc => without1 S.dn i h.bits.1 hi B W hc)
  have hlt : M < w.heap.size := Nat.lt_of_lt_of_le h.lt.1 h.le
  have hne : M ≠ w.heap.size := by omega
  have HF : Hid (FrM M base w ((w.alloc (.cells #[.int .i64 (i : Int)] 3)).setCell ⟨M, 16, none⟩ (.int .u64 ((S.dn ^^^ (S.dn &&& 2 ^ i) : Nat) : Int)))) := (FrM.of (hb1.mono h.le)).trans (FrM.set _ _ _)
  obtain ⟨w2, hw2⟩ : ∃ w2, (w.alloc (.cells #[.int .i64 (i : Int)] 3)).setCell ⟨M, 16, none⟩ (.int .u64 ((S.dn ^^^ (S.dn &&& 2 ^ i) : Nat) : Int)) = w2 := ⟨_, rfl⟩
  rw [hw2] at h2 HF
  have C1 := Lib.hid (famAbout ⟨_, _, h2⟩ 5 (i : Int) (by show S.acts.length ≤ _; omega))
  have HL := Lib.hid hl
  clear h h1 h2 hb1 hd hl
  obtain ⟨d, hd⟩ : ∃ d, S.dn ^^^ (S.dn &&& 2 ^ i) = d := ⟨_, rfl⟩
  rw [hd] at hw2 C0
  have HD := Lib.hid hd
  clear hd
  go_enter Tryz.func24, Tryz.ntmps24
  go_wp2_with fail
  refine (C0.out _ _ (by simp)).mono ?_
  rintro e w' ⟨rfl, rfl⟩
  go_wp2_with fail
  refine C1.out.mono ?_
  rintro e w3 ⟨rfl, h3, hf3⟩
  have HF3 := Lib.hid (HF.out.trans hf3)
  have C2 := Lib.hid (famAbout h3 7 (i : Int) (by have := HL.out; simp [MS.add, MS.down]; omega))
  clear h3 hf3
  go_wp2_with fail
  refine C2.out.mono ?_
  rintro e w4 ⟨rfl, h4, hf4⟩
  have HE : Hid (MkPost w M base c G R near (riseN S i) (.returned (.tuple #[])) w4) := ⟨rfl, h4, HF3.out.trans hf4⟩
  clear h4 hf4
  go_wp2
  go_end0
  exact HE.out

def crashN (S : MS) (i : Nat) : MS := ((S.add ⟨4, i, 0, 0, 0, 0⟩).down (S.dn ||| 2 ^ i)).faulty (S.fy ||| 2 ^ i)
set_option maxHeartbeats 6400000 in
theorem famCrash {w : World} {M base : Nat} {c : Cn} {G R : Nat} {near : List Nat} {S : MS} (h : MkAt w M base c G R near S) (i : Nat) (hi : i < 64) (hl : S.acts.length ≤ 1000000) :
    Calls Tryz.prog 26 #[.pointer (some ⟨M, 0, none⟩), .int .i64 (i : Int)] w (MkPost w M base c G R near (crashN S i)) := by
  have C1 := Lib.hid (famAbout h 4 (i : Int) hl)
  clear h hl
  go_enter Tryz.func26, Tryz.ntmps26
  go_wp2_with fail
  refine C1.out.mono ?_
  rintro e w1 ⟨rfl, h1, hf1⟩
  obtain ⟨v, vs, h⟩ := h1
  have hS : ∀ W, Below w1.heap.size w1 W → W.cell? ⟨M, 16, none⟩ = some (.int .u64 (S.dn : Int)) ∧ W.cell? ⟨M, 17, none⟩ = some (.int .u64 (S.fy : Int)) ∧ W.frozen? ⟨M, 16, none⟩ = false ∧ W.frozen? ⟨M, 17, none⟩ = false := fun W hb =>
    ⟨(h.kept hb).cell 16 _ rfl, (h.kept hb).cell 17 _ rfl, (h.kept hb).fz 16 (by omega), (h.kept hb).fz 17 (by omega)⟩
  have HS := Lib.hid hS
  have hp : 2 ^ i < 18446744073709551616 := Nat.pow_lt_pow_right (m := i) (n := 64) (by decide) hi
  have hd : S.dn ||| 2 ^ i < 18446744073709551616 := or_lt64 h.bits.1 hp
  have hy : S.fy ||| 2 ^ i < 18446744073709551616 := or_lt64 h.bits.2 hp
  have D1 := Lib.hid (fun (B : Nat) (W : World) hc => with1 S.dn i h.bits.1 hi B W hc)
  have D2 := Lib.hid (fun (B : Nat) (W : World) hc => with1 S.fy i h.bits.2 hi B W hc)
  have HF : Hid (∀ W, Below ((w1.setCell ⟨M, 16, none⟩ (.int .u64 ((S.dn ||| 2 ^ i : Nat) : Int))).setCell ⟨M, 17, none⟩ (.int .u64 ((S.fy ||| 2 ^ i : Nat) : Int))).heap.size ((w1.setCell ⟨M, 16, none⟩ (.int .u64 ((S.dn ||| 2 ^ i : Nat) : Int))).setCell ⟨M, 17, none⟩ (.int .u64 ((S.fy ||| 2 ^ i : Nat) : Int))) W → MkPost w M base c G R near (crashN S i) (.returned (.tuple #[])) W) := fun W hb =>
    ⟨rfl, ⟨_, _, ((h.downed (Below.refl _ _) _ hd).faultied (Below.refl _ _) _ hy).kept hb⟩, ((hf1.trans (FrM.set _ _ _)).trans (FrM.set _ _ _)).trans (FrM.of (hb.mono (by simpa using h.le)))⟩
  have hlt : M < w1.heap.size := Nat.lt_of_lt_of_le h.lt.1 h.le
  have hne : M ≠ w1.heap.size := by omega
  have hne2 : M ≠ w1.heap.size + 1 := by omega
  have HB0 : Hid (Below w1.heap.size w1 w1.drew) := (Below.refl _ _).drew
  have HB1 : Hid (Below w1.heap.size w1 (w1.alloc (.cells #[.int .i64 (i : Int)] 3)).drew) := ((Below.refl _ _).alloc (Nat.le_refl _) _).drew
  have HB2 : Hid (Below w1.heap.size w1 ((w1.alloc (.cells #[.int .i64 (i : Int)] 3)).alloc (.cells #[.int .i64 (i : Int)] 3)).drew) := (((Below.refl _ _).alloc (Nat.le_refl _) _).alloc (by simp) _).drew
  have HHI := Lib.hid hi
  clear h hf1 hS hp hd hy hi
  obtain ⟨dn, hdn⟩ : ∃ d, S.dn ||| 2 ^ i = d := ⟨_, rfl⟩
  obtain ⟨fy, hfy⟩ : ∃ d, S.fy ||| 2 ^ i = d := ⟨_, rfl⟩
  rw [hdn] at HF D1
  rw [hfy] at HF D2
  clear hdn hfy
  go_wp2_with fail
  refine wp_region_phase [1] 16 6 (fun W => Below w1.heap.size w1 W) (by kernel_rfl) (by rfl) 12 (by kernel_rfl) (by kernel_rfl) (by kernel_rfl) (by intro c a t v w h; exact h) ?_
  intro HNS HTB
  simp only [pickL, preL, List.drop_succ_cons, List.drop_zero, List.head?_cons, Option.toList_some, List.cons_append, List.nil_append]
  refine wpHead_step _ (by rfl) (by intro W hW; go_simp; with_reducible rfl) ?_
  simp only [Act.put, List.setIfInBounds_toArray, List.set_cons_zero, List.set_cons_succ]
  refine wpHead_nil ?_
  refine T_first 0 12 _ (by rfl) HNS HTB (by kernel_rfl) (by kernel_rfl) (by intro c a t v w h; exact h) (HB0.out) (by rfl) (by intro W hW; have hc := HS.out W hW; obtain ⟨z1, z2, -, -⟩ := hc; go_simp; with_reducible rfl) ?_
  simp only [Act.put, List.setIfInBounds_toArray, List.set_cons_zero, List.set_cons_succ]
  refine T_first 2 12 _ (by rfl) HNS HTB (by kernel_rfl) (by kernel_rfl) (by intro c a t v w h; exact h) (HB0.out) (by rfl) (by intro W hW; have hc := HS.out W hW; obtain ⟨z1, z2, -, -⟩ := hc; go_simp; with_reducible rfl) ?_
  simp only [Act.put, List.setIfInBounds_toArray, List.set_cons_zero, List.set_cons_succ]
  refine T_first 3 12 _ (by rfl) HNS HTB (by kernel_rfl) (by kernel_rfl) (by intro c a t v w h; exact h) (HB0.out) (by rfl) (by intro W hW; have hc := HS.out W hW; obtain ⟨z1, z2, -, -⟩ := hc; go_simp; with_reducible rfl) ?_
  simp only [Act.put, List.setIfInBounds_toArray, List.set_cons_zero, List.set_cons_succ]
  refine T_first 4 12 _ (by rfl) HNS HTB (by kernel_rfl) (by kernel_rfl) (by intro c a t v w h; exact h) (HB0.out) (by rfl) (by intro W hW; have hc := HS.out W hW; obtain ⟨z1, z2, -, -⟩ := hc; go_simp; with_reducible rfl) ?_
  simp only [Act.put, List.setIfInBounds_toArray, List.set_cons_zero, List.set_cons_succ]
  refine T_first 5 12 _ (by rfl) HNS HTB (by kernel_rfl) (by kernel_rfl) (by intro c a t v w h; exact h) (HB0.out) (by rfl) (by intro W hW; have hc := HS.out W hW; obtain ⟨z1, z2, -, -⟩ := hc; go_simp; with_reducible rfl) ?_
  simp only [Act.put, List.setIfInBounds_toArray, List.set_cons_zero, List.set_cons_succ]
  refine T_first 6 12 _ (by rfl) HNS HTB (by kernel_rfl) (by kernel_rfl) (by intro c a t v w h; exact h) (HB0.out) (by rfl) (by intro W hW; have hc := HS.out W hW; obtain ⟨z1, z2, -, -⟩ := hc; go_simp; with_reducible rfl) ?_
  simp only [Act.put, List.setIfInBounds_toArray, List.set_cons_zero, List.set_cons_succ]
  refine T_first 9 12 _ (by rfl) HNS HTB (by kernel_rfl) (by kernel_rfl) (by intro c a t v w h; exact h) (HB0.out) (by rfl) (by intro W hW; have hc := HS.out W hW; obtain ⟨z1, z2, -, -⟩ := hc; go_simp; with_reducible rfl) ?_
  simp only [Act.put, List.setIfInBounds_toArray, List.set_cons_zero, List.set_cons_succ]
  refine T_first 10 12 _ (by rfl) HNS HTB (by kernel_rfl) (by kernel_rfl) (by intro c a t v w h; exact h) (HB0.out) (by rfl) (by intro W hW; have hc := HS.out W hW; obtain ⟨z1, z2, -, -⟩ := hc; go_simp; with_reducible rfl) ?_
  simp only [Act.put, List.setIfInBounds_toArray, List.set_cons_zero, List.set_cons_succ]
  refine T_first 11 12 _ (by rfl) HNS HTB (by kernel_rfl) (by kernel_rfl) (by intro c a t v w h; exact h) (HB0.out) (by rfl) (by intro W hW; have hc := HS.out W hW; obtain ⟨z1, z2, -, -⟩ := hc; go_simp; with_reducible rfl) ?_
  simp only [Act.put, List.setIfInBounds_toArray, List.set_cons_zero, List.set_cons_succ]
  refine T_first 12 12 _ (by rfl) HNS HTB (by kernel_rfl) (by kernel_rfl) (by intro c a t v w h; exact h) (HB0.out) (by rfl) (by intro W hW; have hc := HS.out W hW; obtain ⟨z1, z2, -, -⟩ := hc; go_simp; with_reducible rfl) ?_
  simp only [Act.put, List.setIfInBounds_toArray, List.set_cons_zero, List.set_cons_succ]
  refine T_first 13 12 _ (by rfl) HNS HTB (by kernel_rfl) (by kernel_rfl) (by intro c a t v w h; exact h) (HB0.out) (by rfl) (by intro W hW; have hc := HS.out W hW; obtain ⟨z1, z2, -, -⟩ := hc; go_simp; with_reducible rfl) ?_
  simp only [Act.put, List.setIfInBounds_toArray, List.set_cons_zero, List.set_cons_succ]
  refine T_two (i := 7) (k := 14) (by kernel_rfl) (by rfl) (by rfl) (by decide) (by decide) ?_ ?_
  · rw [if_pos (by rfl)]
    go_simp
    refine ⟨HB1.out, ?_⟩
    refine T_two (i := 8) (k := 14) (by kernel_rfl) (by rfl) (by rfl) (by decide) (by decide) ?_ ?_
    · rw [if_pos (by rfl)]
      go_simp
      go_at_call 42
      refine (D1.out _ _ (by simp)).mono ?_
      rintro e w' ⟨rfl, rfl⟩
      refine ⟨HB1.out, ?_⟩
      refine T_one (i := 14) (by kernel_rfl) (by rfl) (by decide) ?_
      rw [if_pos (by rfl)]
      go_simp
      refine ⟨HB2.out, ?_⟩
      refine T_one (i := 15) (by kernel_rfl) (by rfl) (by decide) ?_
      rw [if_pos (by rfl)]
      go_simp
      go_at_call 42
      refine (D2.out _ _ (by simp)).mono ?_
      rintro e w' ⟨rfl, rfl⟩
      refine ⟨HB2.out, ?_⟩
      refine T_done (by kernel_rfl) ?_
      refine wpAny_seq 16 (by kernel_rfl) (by rfl) (by rfl) ?_
      have zz := HS.out _ (Below.refl _ w1)
      obtain ⟨z1, z2, z3, z4⟩ := zz
      go_wp2
      go_end0
      exact HF.out _ (((Below.refl _ _).alloc (Nat.le_refl _) _).alloc (by simp) _).drew
    · rw [if_pos (by rfl)]
      go_simp
      refine ⟨HB2.out, ?_⟩
      refine T_one (i := 8) (by kernel_rfl) (by rfl) (by decide) ?_
      rw [if_pos (by rfl)]
      go_simp
      go_at_call 42
      refine (D1.out _ _ (by simp)).mono ?_
      rintro e w' ⟨rfl, rfl⟩
      refine ⟨HB2.out, ?_⟩
      refine T_one (i := 15) (by kernel_rfl) (by rfl) (by decide) ?_
      rw [if_pos (by rfl)]
      go_simp
      go_at_call 42
      refine (D2.out _ _ (by simp)).mono ?_
      rintro e w' ⟨rfl, rfl⟩
      refine ⟨HB2.out, ?_⟩
      refine T_done (by kernel_rfl) ?_
      refine wpAny_seq 16 (by kernel_rfl) (by rfl) (by rfl) ?_
      have zz := HS.out _ (Below.refl _ w1)
      obtain ⟨z1, z2, z3, z4⟩ := zz
      go_wp2
      go_end0
      exact HF.out _ (((Below.refl _ _).alloc (Nat.le_refl _) _).alloc (by simp) _).drew
  · rw [if_pos (by rfl)]
    go_simp
    refine ⟨HB1.out, ?_⟩
    refine T_one (i := 7) (by kernel_rfl) (by rfl) (by decide) ?_
    rw [if_pos (by rfl)]
    go_simp
    refine ⟨HB2.out, ?_⟩
    refine T_one (i := 8) (by kernel_rfl) (by rfl) (by decide) ?_
    rw [if_pos (by rfl)]
    go_simp
    go_at_call 42
    refine (D1.out _ _ (by simp)).mono ?_
    rintro e w' ⟨rfl, rfl⟩
    refine ⟨HB2.out, ?_⟩
    refine T_one (i := 15) (by kernel_rfl) (by rfl) (by decide) ?_
    rw [if_pos (by rfl)]
    go_simp
    go_at_call 42
    refine (D2.out _ _ (by simp)).mono ?_
    rintro e w' ⟨rfl, rfl⟩
    refine ⟨HB2.out, ?_⟩
    refine T_done (by kernel_rfl) ?_
    refine wpAny_seq 16 (by kernel_rfl) (by rfl) (by rfl) ?_
    have zz := HS.out _ (Below.refl _ w1)
    obtain ⟨z1, z2, z3, z4⟩ := zz
    go_wp2
    go_end0
    exact HF.out _ (((Below.refl _ _).alloc (Nat.le_refl _) _).alloc (by simp) _).drew
end Go.Proofs.YtjclhjijpailoaaGreatDoor

namespace Go.Proofs.YtjclhjijpailoaaGreatDoor
open Go.RowKit Law
set_option linter.unusedVariables false
set_option linter.unusedSimpArgs false
set_option maxRecDepth 100000

def ftA (x : Int × Int × Int) : Fd := ⟨3, 0, 0, x.1, x.2.1, x.2.2⟩
def ftsN (S : MS) (fn : Nat → Int × Int × Int) : Nat → MS
  | 0 => S
  | k + 1 => (ftsN S fn k).add (ftA (fn k))
theorem ftsN_len (S : MS) (fn : Nat → Int × Int × Int) : ∀ k, (ftsN S fn k).acts.length = S.acts.length + k
  | 0 => rfl
  | k + 1 => by simp [ftsN, MS.add, ftsN_len S fn k]; omega
theorem ftsN_fy (S : MS) (fn : Nat → Int × Int × Int) : ∀ k, (ftsN S fn k).fy = S.fy ∧ (ftsN S fn k).dn = S.dn ∧ (ftsN S fn k).sent = S.sent
  | 0 => ⟨rfl, rfl, rfl⟩
  | k + 1 => ftsN_fy S fn k
theorem FtPost.from_ {x : Int × Int × Int} {w : World} {e : Ending} {w' : World} (h : FtPost x w e w') : e = .returned (.agg #[.int .i64 x.1, .int .i64 x.2.1, .int .i64 x.2.2, .int .u32 0, .int .u32 0]) ∧ Below w.heap.size w w' := h

set_option maxHeartbeats 3200000 in
theorem famFatesQ {w : World} {M base : Nat} {c : Cn} {G R : Nat} {near : List Nat} {S : MS} (h : MkAt w M base c G R near S) (i : Nat) (hi : i < near.length) (hl : S.acts.length ≤ 999900) :
    Calls Tryz.prog 20 #[.pointer (some ⟨M, 0, none⟩), .int .i64 (i : Int), .func (.func 21) #[.pointer (some ⟨M, 0, none⟩)] #[]] w (MkPost w M base c G R near (ftsN S (fun k => quickN c k) (els (near.getD i 0)).length)) := by
  obtain ⟨v, vs, h⟩ := h
  have c15 := h.cell 15 _ rfl
  have C0 := Lib.hid (grNear i hi h.gr)
  have hx : near.getD i 0 < 18446744073709551616 := by
    rw [List.getD_eq_getElem?_getD, List.getElem?_eq_getElem hi]
    exact h.gr.lt _ (List.getElem_mem hi)
  have C1 := Lib.hid (fun W => (nodesCount (near.getD i 0) hx W).mono fun _ _ hc => And.intro hc.1 hc.2.symm)
  have hq := els_len (near.getD i 0)
  have HH : Hid (MkAt w M base c G R near S) := ⟨_, _, h⟩
  obtain ⟨q, hqq⟩ : ∃ q, (els (near.getD i 0)).length = q := ⟨_, rfl⟩
  rw [hqq] at C1 hq ⊢
  obtain ⟨x, hxx⟩ : ∃ x, near.getD i 0 = x := ⟨_, rfl⟩
  rw [hxx] at C0 C1
  clear h hqq hx hxx
  go_enter Tryz.func20, Tryz.ntmps20
  go_wp2_with (first
    | (go_at_call 39; (with_reducible refine C0.out.mono ?_); rintro e w' ⟨rfl, rfl⟩)
    | (go_at_call 8; (with_reducible refine (C1.out _).mono ?_); rintro e w' ⟨rfl, rfl⟩))
  go_loopw [16] (fun k wr => ∃ j : Nat, j ≤ q ∧ k = .int .i64 j ∧ MkAt wr M base c G R near (ftsN S (fun k => quickN c k) j) ∧ FrM M base w wr) (fun k _ => q - (intOf k).toNat)
  case atStart => exact ⟨0, Nat.zero_le _, rfl, HH.out, FrM.refl _ _ _⟩
  case round =>
    obtain ⟨j, hj, rfl, hM, hF⟩ := hrel
    by_cases hlt : j < q
    · have hjq : (j : Int) < (q : Int) := by omega
      have hj6 : (j : Int) ≤ 64 := by omega
      have C2 := Lib.hid (famQuick hM j q (by omega) (by omega))
      have HX := Lib.hid (And.intro hM hF)
      have C3 : Hid (∀ W, Below wr.heap.size wr W → Calls Tryz.prog 23 #[.pointer (some ⟨M, 0, none⟩), .agg ((ftA (quickN c j)).cells (.slice none 0 0)).toArray] W (MkPost W M base c G R near ((ftsN S (fun k => quickN c k) j).add (ftA (quickN c j))))) := fun W hb => famAct (hM.kept hb) _ _ ⟨_, _, _, rfl⟩ (by rw [ftsN_len]; omega)
      unfold ftA Fd.cells at C3
      clear hM hF
      go_wp2_with fail
      go_at_call 21
      refine C2.out.mono ?_
      rintro e w1 h1
      obtain ⟨rfl, hb⟩ := h1.from_
      have C4 := Lib.hid (C3.out _ hb)
      have HB := Lib.hid hb
      clear hb h1
      go_wp2_with fail
      refine C4.out.mono ?_
      rintro e w2 ⟨rfl, hM, hF⟩
      have HX2 := Lib.hid (And.intro hM (((HX.out.2.trans (FrM.of (HB.out.mono HX.out.1.le)))).trans hF))
      clear hM hF
      go_wp2
      go_roundw
      case rel => exact ⟨j + 1, by omega, by go_num, HX2.out.1, HX2.out.2⟩
      case measure => simp [intOf]; omega
    · obtain rfl : j = q := by omega
      have HX2 := Lib.hid (And.intro hM hF)
      clear hM hF
      go_wp2
      go_end0
      exact ⟨rfl, HX2.out.1, HX2.out.2⟩

set_option maxHeartbeats 3200000 in
theorem famFatesA {w : World} {M base : Nat} {c : Cn} {G R : Nat} {near : List Nat} {S : MS} (h : MkAt w M base c G R near S) (i : Nat) (hi : i < near.length) (hl : S.acts.length ≤ 999900) :
    Calls Tryz.prog 20 #[.pointer (some ⟨M, 0, none⟩), .int .i64 (i : Int), .func (.func 27) #[.pointer (some ⟨M, 0, none⟩)] #[]] w (MkPost w M base c G R near (ftsN S (fun k => amidN c k (els (near.getD i 0)).length) (els (near.getD i 0)).length)) := by
  obtain ⟨v, vs, h⟩ := h
  have c15 := h.cell 15 _ rfl
  have C0 := Lib.hid (grNear i hi h.gr)
  have hx : near.getD i 0 < 18446744073709551616 := by
    rw [List.getD_eq_getElem?_getD, List.getElem?_eq_getElem hi]
    exact h.gr.lt _ (List.getElem_mem hi)
  have C1 := Lib.hid (fun W => (nodesCount (near.getD i 0) hx W).mono fun _ _ hc => And.intro hc.1 hc.2.symm)
  have hq := els_len (near.getD i 0)
  have HH : Hid (MkAt w M base c G R near S) := ⟨_, _, h⟩
  obtain ⟨q, hqq⟩ : ∃ q, (els (near.getD i 0)).length = q := ⟨_, rfl⟩
  rw [hqq] at C1 hq ⊢
  obtain ⟨x, hxx⟩ : ∃ x, near.getD i 0 = x := ⟨_, rfl⟩
  rw [hxx] at C0 C1
  clear h hqq hx hxx
  go_enter Tryz.func20, Tryz.ntmps20
  go_wp2_with (first
    | (go_at_call 39; (with_reducible refine C0.out.mono ?_); rintro e w' ⟨rfl, rfl⟩)
    | (go_at_call 8; (with_reducible refine (C1.out _).mono ?_); rintro e w' ⟨rfl, rfl⟩))
  go_loopw [16] (fun k wr => ∃ j : Nat, j ≤ q ∧ k = .int .i64 j ∧ MkAt wr M base c G R near (ftsN S (fun k => amidN c k q) j) ∧ FrM M base w wr) (fun k _ => q - (intOf k).toNat)
  case atStart => exact ⟨0, Nat.zero_le _, rfl, HH.out, FrM.refl _ _ _⟩
  case round =>
    obtain ⟨j, hj, rfl, hM, hF⟩ := hrel
    by_cases hlt : j < q
    · have hjq : (j : Int) < (q : Int) := by omega
      have hj6 : (j : Int) ≤ 64 := by omega
      have C2 := Lib.hid (famAmid hM j q (by omega) (by omega))
      have HX := Lib.hid (And.intro hM hF)
      have C3 : Hid (∀ W, Below wr.heap.size wr W → Calls Tryz.prog 23 #[.pointer (some ⟨M, 0, none⟩), .agg ((ftA (amidN c j q)).cells (.slice none 0 0)).toArray] W (MkPost W M base c G R near ((ftsN S (fun k => amidN c k q) j).add (ftA (amidN c j q))))) := fun W hb => famAct (hM.kept hb) _ _ ⟨_, _, _, rfl⟩ (by rw [ftsN_len]; omega)
      unfold ftA Fd.cells at C3
      clear hM hF
      go_wp2_with fail
      go_at_call 27
      refine C2.out.mono ?_
      rintro e w1 h1
      obtain ⟨rfl, hb⟩ := h1.from_
      have C4 := Lib.hid (C3.out _ hb)
      have HB := Lib.hid hb
      clear hb h1
      go_wp2_with fail
      refine C4.out.mono ?_
      rintro e w2 ⟨rfl, hM, hF⟩
      have HX2 := Lib.hid (And.intro hM (((HX.out.2.trans (FrM.of (HB.out.mono HX.out.1.le)))).trans hF))
      clear hM hF
      go_wp2
      go_roundw
      case rel => exact ⟨j + 1, by omega, by go_num, HX2.out.1, HX2.out.2⟩
      case measure => simp [intOf]; omega
    · obtain rfl : j = q := by omega
      have HX2 := Lib.hid (And.intro hM hF)
      clear hM hF
      go_wp2
      go_end0
      exact ⟨rfl, HX2.out.1, HX2.out.2⟩

def cnt (near : List Nat) (i : Nat) : Nat := (els (near.getD i 0)).length
theorem cnt_le (near : List Nat) (i : Nat) : cnt near i ≤ 64 := els_len _
/-- What an added choice makes of a maker. -/
def addN (near : List Nat) (c : Cn) (S : MS) (b : Nat) : MS :=
  let i := b / 8 % near.length
  if b % 8 = 0 then S.add ⟨1, 0, 1, 0, 0, 0⟩
  else if b % 8 = 1 then S.add ⟨1, 0, 4, 0, 0, 0⟩
  else if b % 8 = 2 then S.add ⟨1, 0, 16, 0, 0, 0⟩
  else if b % 8 = 3 then sendN (if sureB c S i then ftsN S (fun k => quickN c k) (cnt near i) else S) i
  else if b % 8 = 4 then S.add ⟨2, i, if b < 128 then -c.rho else c.rho, 0, 0, 0⟩
  else if b % 8 = 5 then (if hasB S.dn (i : Int) then riseN S i else S.add ⟨1, 0, 2, 0, 0, 0⟩)
  else if b % 8 = 6 then (if hasB S.dn (i : Int) || (!hasB S.fy (i : Int) && !moreB c S) then S.add ⟨1, 0, 3, 0, 0, 0⟩ else crashN S i)
  else if !sureB c S i || !moreB c S then S.add ⟨1, 0, 8, 0, 0, 0⟩
  else crashN (sendN (ftsN S (fun k => amidN c k (cnt near i)) (cnt near i)) i) i
set_option maxHeartbeats 6400000 in
theorem famAdd0 {w : World} {M base : Nat} {c : Cn} {G R : Nat} {near : List Nat} {S : MS} (h : MkAt w M base c G R near S) (hn : c.n = (near.length : Int)) (hN : 1 ≤ near.length) (hr : 0 ≤ c.rho ∧ c.rho ≤ 64) (b : Nat) (hb : b < 256) (hl : S.acts.length ≤ 999800) (h8 : b % 8 = 0) :
    Calls Tryz.prog 7 #[.pointer (some ⟨M, 0, none⟩), .int .u8 (b : Int)] w (MkPost w M base c G R near (addN near c S b)) := by
  obtain ⟨i, hi⟩ : ∃ i, b / 8 % near.length = i := ⟨_, rfl⟩
  have hiN : i < near.length := by rw [← hi]; exact Nat.mod_lt _ (by omega)
  have hN64 : near.length ≤ 64 := by obtain ⟨v, vs, h⟩ := h; exact h.gr.le
  have hi64 : i < 64 := by omega
  have hdn : S.dn < 18446744073709551616 := by obtain ⟨v, vs, h⟩ := h; exact h.bits.1
  have hfy : S.fy < 18446744073709551616 := by obtain ⟨v, vs, h⟩ := h; exact h.bits.2
  have hH := h
  obtain ⟨v, vs, hV⟩ := hH
  have c0 := hV.cell 0 _ rfl
  have c5 := hV.cell 5 _ rfl
  have c15 := hV.cell 15 _ rfl
  have c16 := hV.cell 16 _ rfl
  have c17 := hV.cell 17 _ rfl
  rw [hn] at c0
  have CD := Lib.hid (fun W => (nodesHas S.dn hdn (i : Int) (by omega) (by omega) W).mono fun _ _ hc => And.intro hc.1 hc.2.symm)
  have CF := Lib.hid (fun W => (nodesHas S.fy hfy (i : Int) (by omega) (by omega) W).mono fun _ _ hc => And.intro hc.1 hc.2.symm)
  have HA : Hid (addN near c S b = S.add ⟨1, 0, 1, 0, 0, 0⟩) := by unfold Hid addN; simp only [h8, hi]; rfl
  have hi' : (b : Int) / 8 % (near.length : Int) = (i : Int) := by rw [← hi]; rfl
  have hb8 : (b : Int) % 8 = 0 := by omega
  have hbI : (b : Int) < 256 := by omega
  have hNI : (1 : Int) ≤ (near.length : Int) := by omega
  have hNJ : (near.length : Int) ≤ 64 := by omega
  obtain ⟨N, hNN⟩ : ∃ N, near.length = N := ⟨_, rfl⟩
  rw [hNN] at c0 hi' hNI hNJ
  have HI := Lib.hid (And.intro hi64 (And.intro hiN hl))
  have HH := Lib.hid h
  obtain ⟨q0, hq0⟩ : ∃ q, hasB S.dn (i : Int) = q := ⟨_, rfl⟩
  rw [hq0] at CD
  have HQ0 := Lib.hid hq0
  clear hi hn hN hb h8 hdn hfy hV hNN hN64 hi64 hiN h hl hq0
  go_enter Tryz.func7, Tryz.ntmps7
  go_wp2_with (go_at_call 17; (with_reducible refine (CD.out _).mono ?_); rintro e w' ⟨rfl, rfl⟩)
  refine (famTick HH.out 1 (by have := HI.out.2.2; omega)).mono ?_
  rintro e w1 h1
  obtain rfl := h1.1
  have HE := Lib.hid h1
  clear h1
  go_wp2
  go_end0
  exact ⟨rfl, by rw [HA.out]; exact HE.out.2⟩
set_option maxHeartbeats 6400000 in
theorem famAdd1 {w : World} {M base : Nat} {c : Cn} {G R : Nat} {near : List Nat} {S : MS} (h : MkAt w M base c G R near S) (hn : c.n = (near.length : Int)) (hN : 1 ≤ near.length) (hr : 0 ≤ c.rho ∧ c.rho ≤ 64) (b : Nat) (hb : b < 256) (hl : S.acts.length ≤ 999800) (h8 : b % 8 = 1) :
    Calls Tryz.prog 7 #[.pointer (some ⟨M, 0, none⟩), .int .u8 (b : Int)] w (MkPost w M base c G R near (addN near c S b)) := by
  obtain ⟨i, hi⟩ : ∃ i, b / 8 % near.length = i := ⟨_, rfl⟩
  have hiN : i < near.length := by rw [← hi]; exact Nat.mod_lt _ (by omega)
  have hN64 : near.length ≤ 64 := by obtain ⟨v, vs, h⟩ := h; exact h.gr.le
  have hi64 : i < 64 := by omega
  have hdn : S.dn < 18446744073709551616 := by obtain ⟨v, vs, h⟩ := h; exact h.bits.1
  have hfy : S.fy < 18446744073709551616 := by obtain ⟨v, vs, h⟩ := h; exact h.bits.2
  have hH := h
  obtain ⟨v, vs, hV⟩ := hH
  have c0 := hV.cell 0 _ rfl
  have c5 := hV.cell 5 _ rfl
  have c15 := hV.cell 15 _ rfl
  have c16 := hV.cell 16 _ rfl
  have c17 := hV.cell 17 _ rfl
  rw [hn] at c0
  have CD := Lib.hid (fun W => (nodesHas S.dn hdn (i : Int) (by omega) (by omega) W).mono fun _ _ hc => And.intro hc.1 hc.2.symm)
  have CF := Lib.hid (fun W => (nodesHas S.fy hfy (i : Int) (by omega) (by omega) W).mono fun _ _ hc => And.intro hc.1 hc.2.symm)
  have HA : Hid (addN near c S b = S.add ⟨1, 0, 4, 0, 0, 0⟩) := by unfold Hid addN; simp only [h8, hi]; rfl
  have hi' : (b : Int) / 8 % (near.length : Int) = (i : Int) := by rw [← hi]; rfl
  have hb8 : (b : Int) % 8 = 1 := by omega
  have hbI : (b : Int) < 256 := by omega
  have hNI : (1 : Int) ≤ (near.length : Int) := by omega
  have hNJ : (near.length : Int) ≤ 64 := by omega
  obtain ⟨N, hNN⟩ : ∃ N, near.length = N := ⟨_, rfl⟩
  rw [hNN] at c0 hi' hNI hNJ
  have HI := Lib.hid (And.intro hi64 (And.intro hiN hl))
  have HH := Lib.hid h
  obtain ⟨q0, hq0⟩ : ∃ q, hasB S.dn (i : Int) = q := ⟨_, rfl⟩
  rw [hq0] at CD
  have HQ0 := Lib.hid hq0
  clear hi hn hN hb h8 hdn hfy hV hNN hN64 hi64 hiN h hl hq0
  go_enter Tryz.func7, Tryz.ntmps7
  go_wp2_with (go_at_call 17; (with_reducible refine (CD.out _).mono ?_); rintro e w' ⟨rfl, rfl⟩)
  refine (famTick HH.out 4 (by have := HI.out.2.2; omega)).mono ?_
  rintro e w1 h1
  obtain rfl := h1.1
  have HE := Lib.hid h1
  clear h1
  go_wp2
  go_end0
  exact ⟨rfl, by rw [HA.out]; exact HE.out.2⟩
set_option maxHeartbeats 6400000 in
theorem famAdd2 {w : World} {M base : Nat} {c : Cn} {G R : Nat} {near : List Nat} {S : MS} (h : MkAt w M base c G R near S) (hn : c.n = (near.length : Int)) (hN : 1 ≤ near.length) (hr : 0 ≤ c.rho ∧ c.rho ≤ 64) (b : Nat) (hb : b < 256) (hl : S.acts.length ≤ 999800) (h8 : b % 8 = 2) :
    Calls Tryz.prog 7 #[.pointer (some ⟨M, 0, none⟩), .int .u8 (b : Int)] w (MkPost w M base c G R near (addN near c S b)) := by
  obtain ⟨i, hi⟩ : ∃ i, b / 8 % near.length = i := ⟨_, rfl⟩
  have hiN : i < near.length := by rw [← hi]; exact Nat.mod_lt _ (by omega)
  have hN64 : near.length ≤ 64 := by obtain ⟨v, vs, h⟩ := h; exact h.gr.le
  have hi64 : i < 64 := by omega
  have hdn : S.dn < 18446744073709551616 := by obtain ⟨v, vs, h⟩ := h; exact h.bits.1
  have hfy : S.fy < 18446744073709551616 := by obtain ⟨v, vs, h⟩ := h; exact h.bits.2
  have hH := h
  obtain ⟨v, vs, hV⟩ := hH
  have c0 := hV.cell 0 _ rfl
  have c5 := hV.cell 5 _ rfl
  have c15 := hV.cell 15 _ rfl
  have c16 := hV.cell 16 _ rfl
  have c17 := hV.cell 17 _ rfl
  rw [hn] at c0
  have CD := Lib.hid (fun W => (nodesHas S.dn hdn (i : Int) (by omega) (by omega) W).mono fun _ _ hc => And.intro hc.1 hc.2.symm)
  have CF := Lib.hid (fun W => (nodesHas S.fy hfy (i : Int) (by omega) (by omega) W).mono fun _ _ hc => And.intro hc.1 hc.2.symm)
  have HA : Hid (addN near c S b = S.add ⟨1, 0, 16, 0, 0, 0⟩) := by unfold Hid addN; simp only [h8, hi]; rfl
  have hi' : (b : Int) / 8 % (near.length : Int) = (i : Int) := by rw [← hi]; rfl
  have hb8 : (b : Int) % 8 = 2 := by omega
  have hbI : (b : Int) < 256 := by omega
  have hNI : (1 : Int) ≤ (near.length : Int) := by omega
  have hNJ : (near.length : Int) ≤ 64 := by omega
  obtain ⟨N, hNN⟩ : ∃ N, near.length = N := ⟨_, rfl⟩
  rw [hNN] at c0 hi' hNI hNJ
  have HI := Lib.hid (And.intro hi64 (And.intro hiN hl))
  have HH := Lib.hid h
  obtain ⟨q0, hq0⟩ : ∃ q, hasB S.dn (i : Int) = q := ⟨_, rfl⟩
  rw [hq0] at CD
  have HQ0 := Lib.hid hq0
  clear hi hn hN hb h8 hdn hfy hV hNN hN64 hi64 hiN h hl hq0
  go_enter Tryz.func7, Tryz.ntmps7
  go_wp2_with (go_at_call 17; (with_reducible refine (CD.out _).mono ?_); rintro e w' ⟨rfl, rfl⟩)
  refine (famTick HH.out 16 (by have := HI.out.2.2; omega)).mono ?_
  rintro e w1 h1
  obtain rfl := h1.1
  have HE := Lib.hid h1
  clear h1
  go_wp2
  go_end0
  exact ⟨rfl, by rw [HA.out]; exact HE.out.2⟩
set_option maxHeartbeats 6400000 in
theorem famAdd3 {w : World} {M base : Nat} {c : Cn} {G R : Nat} {near : List Nat} {S : MS} (h : MkAt w M base c G R near S) (hn : c.n = (near.length : Int)) (hN : 1 ≤ near.length) (hr : 0 ≤ c.rho ∧ c.rho ≤ 64) (b : Nat) (hb : b < 256) (hl : S.acts.length ≤ 999800) (h8 : b % 8 = 3) :
    Calls Tryz.prog 7 #[.pointer (some ⟨M, 0, none⟩), .int .u8 (b : Int)] w (MkPost w M base c G R near (addN near c S b)) := by
  obtain ⟨i, hi⟩ : ∃ i, b / 8 % near.length = i := ⟨_, rfl⟩
  have hiN : i < near.length := by rw [← hi]; exact Nat.mod_lt _ (by omega)
  have hN64 : near.length ≤ 64 := by obtain ⟨v, vs, h⟩ := h; exact h.gr.le
  have hi64 : i < 64 := by omega
  have hdn : S.dn < 18446744073709551616 := by obtain ⟨v, vs, h⟩ := h; exact h.bits.1
  have hfy : S.fy < 18446744073709551616 := by obtain ⟨v, vs, h⟩ := h; exact h.bits.2
  have hH := h
  obtain ⟨v, vs, hV⟩ := hH
  have c0 := hV.cell 0 _ rfl
  have c5 := hV.cell 5 _ rfl
  have c15 := hV.cell 15 _ rfl
  have c16 := hV.cell 16 _ rfl
  have c17 := hV.cell 17 _ rfl
  rw [hn] at c0
  have CD := Lib.hid (fun W => (nodesHas S.dn hdn (i : Int) (by omega) (by omega) W).mono fun _ _ hc => And.intro hc.1 hc.2.symm)
  have CF := Lib.hid (fun W => (nodesHas S.fy hfy (i : Int) (by omega) (by omega) W).mono fun _ _ hc => And.intro hc.1 hc.2.symm)
  have HA : Hid (addN near c S b = sendN (if sureB c S i then ftsN S (fun k => quickN c k) (cnt near i) else S) i) := by unfold Hid addN; simp only [h8, hi]; rfl
  have hi' : (b : Int) / 8 % (near.length : Int) = (i : Int) := by rw [← hi]; rfl
  have hb8 : (b : Int) % 8 = 3 := by omega
  have hbI : (b : Int) < 256 := by omega
  have hNI : (1 : Int) ≤ (near.length : Int) := by omega
  have hNJ : (near.length : Int) ≤ 64 := by omega
  obtain ⟨N, hNN⟩ : ∃ N, near.length = N := ⟨_, rfl⟩
  rw [hNN] at c0 hi' hNI hNJ
  have HI := Lib.hid (And.intro hi64 (And.intro hiN hl))
  have HH := Lib.hid h
  obtain ⟨q0, hq0⟩ : ∃ q, hasB S.dn (i : Int) = q := ⟨_, rfl⟩
  rw [hq0] at CD
  have HQ0 := Lib.hid hq0
  clear hi hn hN hb h8 hdn hfy hV hNN hN64 hi64 hiN h hl hq0
  have CS := Lib.hid (famSure HH.out i HI.out.1)
  obtain ⟨q1, hq1⟩ : ∃ q, sureB c S i = q := ⟨_, rfl⟩
  rw [hq1] at CS
  have HQ1 := Lib.hid hq1
  clear hq1
  cases q1
  · go_enter Tryz.func7, Tryz.ntmps7
    go_wp2_with (go_at_call 17; (with_reducible refine (CD.out _).mono ?_); rintro e w' ⟨rfl, rfl⟩)
    refine CS.out.mono ?_
    rintro e wq ⟨rfl, nq, rfl⟩
    have HB : Hid (Below base w (w.drewN nq)) := below_draws (Below.refl _ _) nq
    have HK := Lib.hid (HH.out.kept (below_draws (Below.refl _ _) nq))
    have C0 := Lib.hid (famSend HK.out i b HI.out.1 (by have := HI.out.2.2; omega))
    go_wp2_with fail
    refine C0.out.mono ?_
    rintro e w1 ⟨rfl, h1, f1⟩
    have F1 := Lib.hid ((FrM.of (HB.out)).trans f1)
    clear f1
    have HE := Lib.hid (And.intro h1 F1.out)
    clear h1 F1
    go_wp2
    go_end0
    exact ⟨rfl, by rw [HA.out, HQ1.out]; exact HE.out⟩
  · go_enter Tryz.func7, Tryz.ntmps7
    go_wp2_with (go_at_call 17; (with_reducible refine (CD.out _).mono ?_); rintro e w' ⟨rfl, rfl⟩)
    refine CS.out.mono ?_
    rintro e wq ⟨rfl, nq, rfl⟩
    have HB : Hid (Below base w (w.drewN nq)) := below_draws (Below.refl _ _) nq
    have HK := Lib.hid (HH.out.kept (below_draws (Below.refl _ _) nq))
    have C0 := Lib.hid (famFatesQ HK.out i HI.out.2.1 (by have := HI.out.2.2; omega))
    go_wp2_with fail
    refine C0.out.mono ?_
    rintro e w1 ⟨rfl, h1, f1⟩
    have F1 := Lib.hid ((FrM.of (HB.out)).trans f1)
    clear f1
    have C1 := Lib.hid (famSend h1 i b HI.out.1 (by rw [ftsN_len]; have := HI.out.2.2; have := els_len (near.getD i 0); omega))
    clear h1
    go_wp2_with fail
    refine C1.out.mono ?_
    rintro e w2 ⟨rfl, h2, f2⟩
    have F2 := Lib.hid (F1.out.trans f2)
    clear f2
    have HE := Lib.hid (And.intro h2 F2.out)
    clear h2 F2
    go_wp2
    go_end0
    exact ⟨rfl, by rw [HA.out, HQ1.out]; exact HE.out⟩
set_option maxHeartbeats 6400000 in
theorem famAdd4 {w : World} {M base : Nat} {c : Cn} {G R : Nat} {near : List Nat} {S : MS} (h : MkAt w M base c G R near S) (hn : c.n = (near.length : Int)) (hN : 1 ≤ near.length) (hr : 0 ≤ c.rho ∧ c.rho ≤ 64) (b : Nat) (hb : b < 256) (hl : S.acts.length ≤ 999800) (h8 : b % 8 = 4) :
    Calls Tryz.prog 7 #[.pointer (some ⟨M, 0, none⟩), .int .u8 (b : Int)] w (MkPost w M base c G R near (addN near c S b)) := by
  obtain ⟨i, hi⟩ : ∃ i, b / 8 % near.length = i := ⟨_, rfl⟩
  have hiN : i < near.length := by rw [← hi]; exact Nat.mod_lt _ (by omega)
  have hN64 : near.length ≤ 64 := by obtain ⟨v, vs, h⟩ := h; exact h.gr.le
  have hi64 : i < 64 := by omega
  have hdn : S.dn < 18446744073709551616 := by obtain ⟨v, vs, h⟩ := h; exact h.bits.1
  have hfy : S.fy < 18446744073709551616 := by obtain ⟨v, vs, h⟩ := h; exact h.bits.2
  have hH := h
  obtain ⟨v, vs, hV⟩ := hH
  have c0 := hV.cell 0 _ rfl
  have c5 := hV.cell 5 _ rfl
  have c15 := hV.cell 15 _ rfl
  have c16 := hV.cell 16 _ rfl
  have c17 := hV.cell 17 _ rfl
  rw [hn] at c0
  have CD := Lib.hid (fun W => (nodesHas S.dn hdn (i : Int) (by omega) (by omega) W).mono fun _ _ hc => And.intro hc.1 hc.2.symm)
  have CF := Lib.hid (fun W => (nodesHas S.fy hfy (i : Int) (by omega) (by omega) W).mono fun _ _ hc => And.intro hc.1 hc.2.symm)
  have HA : Hid (addN near c S b = S.add ⟨2, i, if b < 128 then -c.rho else c.rho, 0, 0, 0⟩) := by unfold Hid addN; simp only [h8, hi]; rfl
  have hi' : (b : Int) / 8 % (near.length : Int) = (i : Int) := by rw [← hi]; rfl
  have hb8 : (b : Int) % 8 = 4 := by omega
  have hbI : (b : Int) < 256 := by omega
  have hNI : (1 : Int) ≤ (near.length : Int) := by omega
  have hNJ : (near.length : Int) ≤ 64 := by omega
  obtain ⟨N, hNN⟩ : ∃ N, near.length = N := ⟨_, rfl⟩
  rw [hNN] at c0 hi' hNI hNJ
  have HI := Lib.hid (And.intro hi64 (And.intro hiN hl))
  have HH := Lib.hid h
  obtain ⟨q0, hq0⟩ : ∃ q, hasB S.dn (i : Int) = q := ⟨_, rfl⟩
  rw [hq0] at CD
  have HQ0 := Lib.hid hq0
  clear hi hn hN hb h8 hdn hfy hV hNN hN64 hi64 hiN h hl hq0
  obtain ⟨r0, r1⟩ := hr
  by_cases hp : b < 128
  · have hpI : (b : Int) < 128 := by omega
    have C0 : Hid (Calls Tryz.prog 23 #[.pointer (some ⟨M, 0, none⟩), .agg #[.int .i64 2, .int .i64 (i : Int), .int .i64 (-c.rho), .int .i64 0, .int .i64 0, .int .i64 0, .int .u32 0, .int .u32 0, .slice none 0 0]] w (MkPost w M base c G R near (S.add ⟨2, i, (-c.rho), 0, 0, 0⟩))) := famAct HH.out ⟨2, i, (-c.rho), 0, 0, 0⟩ (.slice none 0 0) ⟨_, _, _, rfl⟩ (by have := HI.out.2.2; omega)
    have HP := Lib.hid hp
    clear hp
    go_enter Tryz.func7, Tryz.ntmps7
    go_wp2_with (go_at_call 17; (with_reducible refine (CD.out _).mono ?_); rintro e w' ⟨rfl, rfl⟩)
    refine C0.out.mono ?_
    rintro e w1 h1
    obtain rfl := h1.1
    have HE := Lib.hid h1
    clear h1
    go_wp2
    go_end0
    exact ⟨rfl, by rw [HA.out, if_pos HP.out]; exact HE.out.2⟩
  · have hpI : ¬ (b : Int) < 128 := by omega
    have C0 : Hid (Calls Tryz.prog 23 #[.pointer (some ⟨M, 0, none⟩), .agg #[.int .i64 2, .int .i64 (i : Int), .int .i64 c.rho, .int .i64 0, .int .i64 0, .int .i64 0, .int .u32 0, .int .u32 0, .slice none 0 0]] w (MkPost w M base c G R near (S.add ⟨2, i, c.rho, 0, 0, 0⟩))) := famAct HH.out ⟨2, i, c.rho, 0, 0, 0⟩ (.slice none 0 0) ⟨_, _, _, rfl⟩ (by have := HI.out.2.2; omega)
    have HP := Lib.hid hp
    clear hp
    go_enter Tryz.func7, Tryz.ntmps7
    go_wp2_with (go_at_call 17; (with_reducible refine (CD.out _).mono ?_); rintro e w' ⟨rfl, rfl⟩)
    refine C0.out.mono ?_
    rintro e w1 h1
    obtain rfl := h1.1
    have HE := Lib.hid h1
    clear h1
    go_wp2
    go_end0
    exact ⟨rfl, by rw [HA.out, if_neg HP.out]; exact HE.out.2⟩
set_option maxHeartbeats 6400000 in
theorem famAdd5 {w : World} {M base : Nat} {c : Cn} {G R : Nat} {near : List Nat} {S : MS} (h : MkAt w M base c G R near S) (hn : c.n = (near.length : Int)) (hN : 1 ≤ near.length) (hr : 0 ≤ c.rho ∧ c.rho ≤ 64) (b : Nat) (hb : b < 256) (hl : S.acts.length ≤ 999800) (h8 : b % 8 = 5) :
    Calls Tryz.prog 7 #[.pointer (some ⟨M, 0, none⟩), .int .u8 (b : Int)] w (MkPost w M base c G R near (addN near c S b)) := by
  obtain ⟨i, hi⟩ : ∃ i, b / 8 % near.length = i := ⟨_, rfl⟩
  have hiN : i < near.length := by rw [← hi]; exact Nat.mod_lt _ (by omega)
  have hN64 : near.length ≤ 64 := by obtain ⟨v, vs, h⟩ := h; exact h.gr.le
  have hi64 : i < 64 := by omega
  have hdn : S.dn < 18446744073709551616 := by obtain ⟨v, vs, h⟩ := h; exact h.bits.1
  have hfy : S.fy < 18446744073709551616 := by obtain ⟨v, vs, h⟩ := h; exact h.bits.2
  have hH := h
  obtain ⟨v, vs, hV⟩ := hH
  have c0 := hV.cell 0 _ rfl
  have c5 := hV.cell 5 _ rfl
  have c15 := hV.cell 15 _ rfl
  have c16 := hV.cell 16 _ rfl
  have c17 := hV.cell 17 _ rfl
  rw [hn] at c0
  have CD := Lib.hid (fun W => (nodesHas S.dn hdn (i : Int) (by omega) (by omega) W).mono fun _ _ hc => And.intro hc.1 hc.2.symm)
  have CF := Lib.hid (fun W => (nodesHas S.fy hfy (i : Int) (by omega) (by omega) W).mono fun _ _ hc => And.intro hc.1 hc.2.symm)
  have HA : Hid (addN near c S b = if hasB S.dn (i : Int) then riseN S i else S.add ⟨1, 0, 2, 0, 0, 0⟩) := by unfold Hid addN; simp only [h8, hi]; rfl
  have hi' : (b : Int) / 8 % (near.length : Int) = (i : Int) := by rw [← hi]; rfl
  have hb8 : (b : Int) % 8 = 5 := by omega
  have hbI : (b : Int) < 256 := by omega
  have hNI : (1 : Int) ≤ (near.length : Int) := by omega
  have hNJ : (near.length : Int) ≤ 64 := by omega
  obtain ⟨N, hNN⟩ : ∃ N, near.length = N := ⟨_, rfl⟩
  rw [hNN] at c0 hi' hNI hNJ
  have HI := Lib.hid (And.intro hi64 (And.intro hiN hl))
  have HH := Lib.hid h
  obtain ⟨q0, hq0⟩ : ∃ q, hasB S.dn (i : Int) = q := ⟨_, rfl⟩
  rw [hq0] at CD
  have HQ0 := Lib.hid hq0
  clear hi hn hN hb h8 hdn hfy hV hNN hN64 hi64 hiN h hl hq0
  cases q0
  · go_enter Tryz.func7, Tryz.ntmps7
    go_wp2_with (go_at_call 17; (with_reducible refine (CD.out _).mono ?_); rintro e w' ⟨rfl, rfl⟩)
    refine (famTick HH.out 2 (by have := HI.out.2.2; omega)).mono ?_
    rintro e w1 h1
    obtain rfl := h1.1
    have HE := Lib.hid h1
    clear h1
    go_wp2
    go_end0
    exact ⟨rfl, by rw [HA.out, HQ0.out]; exact HE.out.2⟩
  · go_enter Tryz.func7, Tryz.ntmps7
    go_wp2_with (go_at_call 17; (with_reducible refine (CD.out _).mono ?_); rintro e w' ⟨rfl, rfl⟩)
    refine (famRise HH.out i HI.out.1 (by have := HI.out.2.2; omega)).mono ?_
    rintro e w1 h1
    obtain rfl := h1.1
    have HE := Lib.hid h1
    clear h1
    go_wp2
    go_end0
    exact ⟨rfl, by rw [HA.out, HQ0.out]; exact HE.out.2⟩
set_option maxHeartbeats 6400000 in
theorem famAdd6 {w : World} {M base : Nat} {c : Cn} {G R : Nat} {near : List Nat} {S : MS} (h : MkAt w M base c G R near S) (hn : c.n = (near.length : Int)) (hN : 1 ≤ near.length) (hr : 0 ≤ c.rho ∧ c.rho ≤ 64) (b : Nat) (hb : b < 256) (hl : S.acts.length ≤ 999800) (h8 : b % 8 = 6) :
    Calls Tryz.prog 7 #[.pointer (some ⟨M, 0, none⟩), .int .u8 (b : Int)] w (MkPost w M base c G R near (addN near c S b)) := by
  obtain ⟨i, hi⟩ : ∃ i, b / 8 % near.length = i := ⟨_, rfl⟩
  have hiN : i < near.length := by rw [← hi]; exact Nat.mod_lt _ (by omega)
  have hN64 : near.length ≤ 64 := by obtain ⟨v, vs, h⟩ := h; exact h.gr.le
  have hi64 : i < 64 := by omega
  have hdn : S.dn < 18446744073709551616 := by obtain ⟨v, vs, h⟩ := h; exact h.bits.1
  have hfy : S.fy < 18446744073709551616 := by obtain ⟨v, vs, h⟩ := h; exact h.bits.2
  have hH := h
  obtain ⟨v, vs, hV⟩ := hH
  have c0 := hV.cell 0 _ rfl
  have c5 := hV.cell 5 _ rfl
  have c15 := hV.cell 15 _ rfl
  have c16 := hV.cell 16 _ rfl
  have c17 := hV.cell 17 _ rfl
  rw [hn] at c0
  have CD := Lib.hid (fun W => (nodesHas S.dn hdn (i : Int) (by omega) (by omega) W).mono fun _ _ hc => And.intro hc.1 hc.2.symm)
  have CF := Lib.hid (fun W => (nodesHas S.fy hfy (i : Int) (by omega) (by omega) W).mono fun _ _ hc => And.intro hc.1 hc.2.symm)
  have HA : Hid (addN near c S b = if hasB S.dn (i : Int) || (!hasB S.fy (i : Int) && !moreB c S) then S.add ⟨1, 0, 3, 0, 0, 0⟩ else crashN S i) := by unfold Hid addN; simp only [h8, hi]; rfl
  have hi' : (b : Int) / 8 % (near.length : Int) = (i : Int) := by rw [← hi]; rfl
  have hb8 : (b : Int) % 8 = 6 := by omega
  have hbI : (b : Int) < 256 := by omega
  have hNI : (1 : Int) ≤ (near.length : Int) := by omega
  have hNJ : (near.length : Int) ≤ 64 := by omega
  obtain ⟨N, hNN⟩ : ∃ N, near.length = N := ⟨_, rfl⟩
  rw [hNN] at c0 hi' hNI hNJ
  have HI := Lib.hid (And.intro hi64 (And.intro hiN hl))
  have HH := Lib.hid h
  obtain ⟨q0, hq0⟩ : ∃ q, hasB S.dn (i : Int) = q := ⟨_, rfl⟩
  rw [hq0] at CD
  have HQ0 := Lib.hid hq0
  clear hi hn hN hb h8 hdn hfy hV hNN hN64 hi64 hiN h hl hq0
  cases q0
  · obtain ⟨q1, hq1⟩ : ∃ q, hasB S.fy (i : Int) = q := ⟨_, rfl⟩
    rw [hq1] at CF
    have HQ1 := Lib.hid hq1
    clear hq1
    cases q1
    · have CM := Lib.hid (famMore HH.out)
      obtain ⟨q2, hq2⟩ : ∃ q, moreB c S = q := ⟨_, rfl⟩
      rw [hq2] at CM
      have HQ2 := Lib.hid hq2
      clear hq2
      cases q2
      · go_enter Tryz.func7, Tryz.ntmps7
        go_wp2_with (go_at_call 17; (first | ((with_reducible refine (CD.out _).mono ?_); rintro e w' ⟨rfl, rfl⟩) | ((with_reducible refine (CF.out _).mono ?_); rintro e w' ⟨rfl, rfl⟩)))
        refine CM.out.mono ?_
        rintro e wq ⟨rfl, nq, rfl⟩
        have HB : Hid (Below base w (w.drewN nq)) := below_draws (Below.refl _ _) nq
        have HK := Lib.hid (HH.out.kept (below_draws (Below.refl _ _) nq))
        have C0 := Lib.hid (famTick HK.out 3 (by have := HI.out.2.2; omega))
        go_wp2_with fail
        refine C0.out.mono ?_
        rintro e w1 ⟨rfl, h1, f1⟩
        have F1 := Lib.hid ((FrM.of (HB.out)).trans f1)
        clear f1
        have HE := Lib.hid (And.intro h1 F1.out)
        clear h1 F1
        go_wp2
        go_end0
        exact ⟨rfl, by rw [HA.out, HQ0.out, HQ1.out, HQ2.out]; exact HE.out⟩
      · go_enter Tryz.func7, Tryz.ntmps7
        go_wp2_with (go_at_call 17; (first | ((with_reducible refine (CD.out _).mono ?_); rintro e w' ⟨rfl, rfl⟩) | ((with_reducible refine (CF.out _).mono ?_); rintro e w' ⟨rfl, rfl⟩)))
        refine CM.out.mono ?_
        rintro e wq ⟨rfl, nq, rfl⟩
        have HB : Hid (Below base w (w.drewN nq)) := below_draws (Below.refl _ _) nq
        have HK := Lib.hid (HH.out.kept (below_draws (Below.refl _ _) nq))
        have C0 := Lib.hid (famCrash HK.out i HI.out.1 (by have := HI.out.2.2; omega))
        go_wp2_with fail
        refine C0.out.mono ?_
        rintro e w1 ⟨rfl, h1, f1⟩
        have F1 := Lib.hid ((FrM.of (HB.out)).trans f1)
        clear f1
        have HE := Lib.hid (And.intro h1 F1.out)
        clear h1 F1
        go_wp2
        go_end0
        exact ⟨rfl, by rw [HA.out, HQ0.out, HQ1.out, HQ2.out]; exact HE.out⟩
    · go_enter Tryz.func7, Tryz.ntmps7
      go_wp2_with (go_at_call 17; (first | ((with_reducible refine (CD.out _).mono ?_); rintro e w' ⟨rfl, rfl⟩) | ((with_reducible refine (CF.out _).mono ?_); rintro e w' ⟨rfl, rfl⟩)))
      refine (famCrash HH.out i HI.out.1 (by have := HI.out.2.2; omega)).mono ?_
      rintro e w1 h1
      obtain rfl := h1.1
      have HE := Lib.hid h1
      clear h1
      go_wp2
      go_end0
      exact ⟨rfl, by rw [HA.out, HQ0.out, HQ1.out]; exact HE.out.2⟩
  · go_enter Tryz.func7, Tryz.ntmps7
    go_wp2_with (go_at_call 17; (with_reducible refine (CD.out _).mono ?_); rintro e w' ⟨rfl, rfl⟩)
    refine (famTick HH.out 3 (by have := HI.out.2.2; omega)).mono ?_
    rintro e w1 h1
    obtain rfl := h1.1
    have HE := Lib.hid h1
    clear h1
    go_wp2
    go_end0
    exact ⟨rfl, by rw [HA.out, HQ0.out]; exact HE.out.2⟩
set_option maxHeartbeats 6400000 in
theorem famAdd7 {w : World} {M base : Nat} {c : Cn} {G R : Nat} {near : List Nat} {S : MS} (h : MkAt w M base c G R near S) (hn : c.n = (near.length : Int)) (hN : 1 ≤ near.length) (hr : 0 ≤ c.rho ∧ c.rho ≤ 64) (b : Nat) (hb : b < 256) (hl : S.acts.length ≤ 999800) (h8 : b % 8 = 7) :
    Calls Tryz.prog 7 #[.pointer (some ⟨M, 0, none⟩), .int .u8 (b : Int)] w (MkPost w M base c G R near (addN near c S b)) := by
  obtain ⟨i, hi⟩ : ∃ i, b / 8 % near.length = i := ⟨_, rfl⟩
  have hiN : i < near.length := by rw [← hi]; exact Nat.mod_lt _ (by omega)
  have hN64 : near.length ≤ 64 := by obtain ⟨v, vs, h⟩ := h; exact h.gr.le
  have hi64 : i < 64 := by omega
  have hdn : S.dn < 18446744073709551616 := by obtain ⟨v, vs, h⟩ := h; exact h.bits.1
  have hfy : S.fy < 18446744073709551616 := by obtain ⟨v, vs, h⟩ := h; exact h.bits.2
  have hH := h
  obtain ⟨v, vs, hV⟩ := hH
  have c0 := hV.cell 0 _ rfl
  have c5 := hV.cell 5 _ rfl
  have c15 := hV.cell 15 _ rfl
  have c16 := hV.cell 16 _ rfl
  have c17 := hV.cell 17 _ rfl
  rw [hn] at c0
  have CD := Lib.hid (fun W => (nodesHas S.dn hdn (i : Int) (by omega) (by omega) W).mono fun _ _ hc => And.intro hc.1 hc.2.symm)
  have CF := Lib.hid (fun W => (nodesHas S.fy hfy (i : Int) (by omega) (by omega) W).mono fun _ _ hc => And.intro hc.1 hc.2.symm)
  have HA : Hid (addN near c S b = if !sureB c S i || !moreB c S then S.add ⟨1, 0, 8, 0, 0, 0⟩ else crashN (sendN (ftsN S (fun k => amidN c k (cnt near i)) (cnt near i)) i) i) := by unfold Hid addN; simp only [h8, hi]; rfl
  have hi' : (b : Int) / 8 % (near.length : Int) = (i : Int) := by rw [← hi]; rfl
  have hb8 : (b : Int) % 8 = 7 := by omega
  have hbI : (b : Int) < 256 := by omega
  have hNI : (1 : Int) ≤ (near.length : Int) := by omega
  have hNJ : (near.length : Int) ≤ 64 := by omega
  obtain ⟨N, hNN⟩ : ∃ N, near.length = N := ⟨_, rfl⟩
  rw [hNN] at c0 hi' hNI hNJ
  have HI := Lib.hid (And.intro hi64 (And.intro hiN hl))
  have HH := Lib.hid h
  obtain ⟨q0, hq0⟩ : ∃ q, hasB S.dn (i : Int) = q := ⟨_, rfl⟩
  rw [hq0] at CD
  have HQ0 := Lib.hid hq0
  clear hi hn hN hb h8 hdn hfy hV hNN hN64 hi64 hiN h hl hq0
  have CS := Lib.hid (famSure HH.out i HI.out.1)
  obtain ⟨q1, hq1⟩ : ∃ q, sureB c S i = q := ⟨_, rfl⟩
  rw [hq1] at CS
  have HQ1 := Lib.hid hq1
  clear hq1
  cases q1
  · go_enter Tryz.func7, Tryz.ntmps7
    go_wp2_with (go_at_call 17; (with_reducible refine (CD.out _).mono ?_); rintro e w' ⟨rfl, rfl⟩)
    refine CS.out.mono ?_
    rintro e wq ⟨rfl, nq, rfl⟩
    have HB : Hid (Below base w (w.drewN nq)) := below_draws (Below.refl _ _) nq
    have HK := Lib.hid (HH.out.kept (below_draws (Below.refl _ _) nq))
    have C0 := Lib.hid (famTick HK.out 8 (by have := HI.out.2.2; omega))
    go_wp2_with fail
    refine C0.out.mono ?_
    rintro e w1 ⟨rfl, h1, f1⟩
    have F1 := Lib.hid ((FrM.of (HB.out)).trans f1)
    clear f1
    have HE := Lib.hid (And.intro h1 F1.out)
    clear h1 F1
    go_wp2
    go_end0
    exact ⟨rfl, by rw [HA.out, HQ1.out]; exact HE.out⟩
  · go_enter Tryz.func7, Tryz.ntmps7
    go_wp2_with (go_at_call 17; (with_reducible refine (CD.out _).mono ?_); rintro e w' ⟨rfl, rfl⟩)
    refine CS.out.mono ?_
    rintro e wq ⟨rfl, nq, rfl⟩
    have HB : Hid (Below base w (w.drewN nq)) := below_draws (Below.refl _ _) nq
    have HK := Lib.hid (HH.out.kept (below_draws (Below.refl _ _) nq))
    have CM := Lib.hid (famMore HK.out)
    obtain ⟨q2, hq2⟩ : ∃ q, moreB c S = q := ⟨_, rfl⟩
    rw [hq2] at CM
    have HQ2 := Lib.hid hq2
    clear hq2
    go_wp2_with fail
    refine CM.out.mono ?_
    rintro e wq ⟨rfl, mq, rfl⟩
    have HB2 : Hid (Below base w (w.drewN (nq + mq))) := below_draws (Below.refl _ _) (nq + mq)
    have HK2 := Lib.hid (HH.out.kept (below_draws (Below.refl _ _) (nq + mq)))
    cases q2
    · have C0 := Lib.hid (famTick HK2.out 8 (by have := HI.out.2.2; omega))
      go_wp2_with fail
      refine C0.out.mono ?_
      rintro e w1 ⟨rfl, h1, f1⟩
      have F1 := Lib.hid ((FrM.of (HB2.out)).trans f1)
      clear f1
      have HE := Lib.hid (And.intro h1 F1.out)
      clear h1 F1
      go_wp2
      go_end0
      exact ⟨rfl, by rw [HA.out, HQ1.out, HQ2.out]; exact HE.out⟩
    · have C0 := Lib.hid (famFatesA HK2.out i HI.out.2.1 (by have := HI.out.2.2; omega))
      go_wp2_with fail
      refine C0.out.mono ?_
      rintro e w1 ⟨rfl, h1, f1⟩
      have F1 := Lib.hid ((FrM.of (HB2.out)).trans f1)
      clear f1
      have C1 := Lib.hid (famSend h1 i b HI.out.1 (by rw [ftsN_len]; have := HI.out.2.2; have := els_len (near.getD i 0); omega))
      clear h1
      go_wp2_with fail
      refine C1.out.mono ?_
      rintro e w2 ⟨rfl, h2, f2⟩
      have F2 := Lib.hid (F1.out.trans f2)
      clear f2
      have C2 := Lib.hid (famCrash h2 i HI.out.1 (by unfold sendN MS.count MS.add; simp only [List.length_append, List.length_cons, List.length_nil]; rw [ftsN_len]; have := HI.out.2.2; have := els_len (near.getD i 0); omega))
      clear h2
      go_wp2_with fail
      refine C2.out.mono ?_
      rintro e w3 ⟨rfl, h3, f3⟩
      have F3 := Lib.hid (F2.out.trans f3)
      clear f3
      have HE := Lib.hid (And.intro h3 F3.out)
      clear h3 F3
      go_wp2
      go_end0
      exact ⟨rfl, by rw [HA.out, HQ1.out, HQ2.out]; exact HE.out⟩

theorem famAdd {w : World} {M base : Nat} {c : Cn} {G R : Nat} {near : List Nat} {S : MS} (h : MkAt w M base c G R near S) (hn : c.n = (near.length : Int)) (hN : 1 ≤ near.length) (hr : 0 ≤ c.rho ∧ c.rho ≤ 64) (b : Nat) (hb : b < 256) (hl : S.acts.length ≤ 999800) :
    Calls Tryz.prog 7 #[.pointer (some ⟨M, 0, none⟩), .int .u8 (b : Int)] w (MkPost w M base c G R near (addN near c S b)) := by
  have h8 : b % 8 = 0 ∨ b % 8 = 1 ∨ b % 8 = 2 ∨ b % 8 = 3 ∨ b % 8 = 4 ∨ b % 8 = 5 ∨ b % 8 = 6 ∨ b % 8 = 7 := by omega
  rcases h8 with e | e | e | e | e | e | e | e
  · exact famAdd0 h hn hN hr b hb hl e
  · exact famAdd1 h hn hN hr b hb hl e
  · exact famAdd2 h hn hN hr b hb hl e
  · exact famAdd3 h hn hN hr b hb hl e
  · exact famAdd4 h hn hN hr b hb hl e
  · exact famAdd5 h hn hN hr b hb hl e
  · exact famAdd6 h hn hN hr b hb hl e
  · exact famAdd7 h hn hN hr b hb hl e
end Go.Proofs.YtjclhjijpailoaaGreatDoor

namespace Go.Proofs.YtjclhjijpailoaaGreatDoor
open Go.RowKit Law
set_option linter.unusedVariables false
set_option linter.unusedSimpArgs false
set_option maxRecDepth 100000

def S0 : MS := ⟨0, 0, List.replicate 64 0, []⟩
def MkNil (w : World) (M : Nat) : Prop := M < w.heap.size ∧ w.cell? ⟨M, 15, none⟩ = some (.pointer none) ∧ w.cell? ⟨M, 17, none⟩ = some (.int .u64 0) ∧ w.cell? ⟨M, 82, none⟩ = some (.slice none 0 0)
def FamPost (c : Cn) (L : List Pr) (w : World) (e : Ending) (w' : World) : Prop := ∃ M, e = .returned (.pointer (some ⟨M, 0, none⟩)) ∧ w.heap.size ≤ M ∧ Below w.heap.size w w' ∧
  (faultN c L = 0 → ∃ base G R, MkAt w' M base c G R (nearL c.n.toNat L) S0) ∧ (faultN c L ≠ 0 → MkNil w' M)
def mkZ (c : Cn) (A : Option Addr) (l k : Nat) : List Value := c.cells A l k ++ ([.pointer none, .int .u64 0, .int .u64 0] ++ (List.replicate 64 (.int .i64 0) ++ [.slice none 0 0]))
theorem mkZ_len (c : Cn) (A : Option Addr) (l k : Nat) : (mkZ c A l k).length = 83 := by simp [mkZ]
theorem mkZ_eq (n f dmin dmax rho slew round window attend seen hist fly quota body : Int) (A : Option Addr) (l k : Nat) : (((((((((((((((Tryz.zeroCells53.setIfInBounds 0 (.int .i64 n)).setIfInBounds 1 (.slice A l k)).setIfInBounds 2 (.int .i64 f)).setIfInBounds 3 (.int .i64 dmin)).setIfInBounds 4 (.int .i64 dmax)).setIfInBounds 5 (.int .i64 rho)).setIfInBounds 6 (.int .i64 slew)).setIfInBounds 7 (.int .i64 round)).setIfInBounds 8 (.int .i64 window)).setIfInBounds 9 (.int .i64 attend)).setIfInBounds 10 (.int .i64 seen)).setIfInBounds 11 (.int .i64 hist)).setIfInBounds 12 (.int .i64 fly)).setIfInBounds 13 (.int .i64 quota)).setIfInBounds 14 (.int .i64 body)) = (mkZ ⟨n, f, dmin, dmax, rho, slew, round, window, attend, seen, hist, fly, quota, body⟩ A l k).toArray := by kernel_rfl
theorem mkZ_get (c : Cn) (A : Option Addr) (l k G : Nat) (o : Nat) (x : Value) (h : mkCell c G S0.dn S0.fy S0.sent (.slice none 0 0) o = some x) : (((mkZ c A l k).set 15 (.pointer (some ⟨G, 0, none⟩))).set 1 (.slice none 0 0))[o]? = some x := by
  unfold mkCell S0 at h
  split at h
  · exact h
  · exact h
  · exact h
  · exact h
  · exact h
  · exact h
  · exact h
  · exact h
  · exact h
  · exact h
  · split at h
    · rename_i h0 h1 h2 h3 h4 h5 h6 h7 h8 h9 ho
      rw [List.getElem?_replicate] at h
      split at h
      · rename_i hlt
        rw [List.getElem?_set_ne (by omega), List.getElem?_set_ne (by omega)]
        unfold mkZ
        rw [List.getElem?_append_right (by simp; omega), List.getElem?_append_right (by simp; omega), List.getElem?_append_left (by simp; omega), List.getElem?_replicate, if_pos (by simp; omega)]
        exact h
      · cases h
    · cases h
set_option maxHeartbeats 6400000 in
theorem famNew (c : Cn) (A : Option Addr) (l k : Nat) (L : List Pr) (hl : L.length = l) (hfit : ∀ x ∈ L, PrF x) (hm : l ≤ 9223372036854775807) (h9 : gErr c.n L = 0 → c.n < 9) (w : World) (hA : LinksAt w A L) (hT : T64 w) :
    Calls Tryz.prog 6 #[.agg (c.cells A l k).toArray] w (FamPost c L w) := by
  have CK := fun (W : World) (hW : Below w.heap.size w W) => cCheck c A l k L hl hfit hm h9 W (hA.below hW) (hT.below hW)
  have CG := fun (W : World) (hW : Below w.heap.size w W) => grNew c.n A k L hl hfit hm W (hA.below hW)
  have HP : Hid (∀ e w', (∃ M, e = .returned (.pointer (some ⟨M, 0, none⟩)) ∧ w.heap.size ≤ M ∧ Below w.heap.size w w' ∧ (faultN c L = 0 → ∃ base G R, MkAt w' M base c G R (nearL c.n.toNat L) S0) ∧ (faultN c L ≠ 0 → MkNil w' M)) → FamPost c L w e w') := fun _ _ h => h
  have HG0 : Hid (faultN c L = 0 → gErr c.n L = 0 ∧ 2 ≤ c.n) := fun h => by
    unfold faultN at h
    split at h
    · cases h
    · rename_i hh
      exact ⟨Decidable.byContradiction fun h1 => hh (.inl h1), by omega⟩
  have HNL : Hid ((nearL c.n.toNat L).length = c.n.toNat) := nearL_len _ _
  obtain ⟨FN, hFN⟩ : ∃ FN, faultN c L = FN := ⟨_, rfl⟩
  rw [hFN] at HG0 HP
  have CK : ∀ W, Below w.heap.size w W → Calls Tryz.prog 15 #[.agg (c.cells A l k).toArray] W fun e w' => e = .returned (.int .i64 (if FN = 0 then 0 else 17)) ∧ Below W.heap.size W w' := fun W hW => by rw [← hFN]; exact CK W hW
  clear hFN
  obtain ⟨n, f, dmin, dmax, rho, slew, round, window, attend, seen, hist, fly, quota, body⟩ := c
  have k0 := boxF_made w [.int .i64 n, .slice A l k, .int .i64 f, .int .i64 dmin, .int .i64 dmax, .int .i64 rho, .int .i64 slew, .int .i64 round, .int .i64 window, .int .i64 attend, .int .i64 seen, .int .i64 hist, .int .i64 fly, .int .i64 quota, .int .i64 body] 26
  have k1 := (Below.refl w.heap.size w).alloc (Nat.le_refl _) (.cells #[.int .i64 n, .slice A l k, .int .i64 f, .int .i64 dmin, .int .i64 dmax, .int .i64 rho, .int .i64 slew, .int .i64 round, .int .i64 window, .int .i64 attend, .int .i64 seen, .int .i64 hist, .int .i64 fly, .int .i64 quota, .int .i64 body] 26)
  obtain ⟨w1, hw1⟩ : ∃ w1, w.alloc (.cells #[.int .i64 n, .slice A l k, .int .i64 f, .int .i64 dmin, .int .i64 dmax, .int .i64 rho, .int .i64 slew, .int .i64 round, .int .i64 window, .int .i64 attend, .int .i64 seen, .int .i64 hist, .int .i64 fly, .int .i64 quota, .int .i64 body] 26) = w1 := ⟨_, rfl⟩
  have hs1 : w1.heap.size = w.heap.size + 1 := by rw [← hw1]; simp
  rw [hw1] at k0 k1
  have k2 := boxF_made w1 (mkZ ⟨n, f, dmin, dmax, rho, slew, round, window, attend, seen, hist, fly, quota, body⟩ A l k) 53
  have k3 := (Below.refl w1.heap.size w1).alloc (Nat.le_refl _) (.cells (mkZ ⟨n, f, dmin, dmax, rho, slew, round, window, attend, seen, hist, fly, quota, body⟩ A l k).toArray 53)
  rw [← mkZ_eq] at k2 k3
  obtain ⟨w2, hw2⟩ : ∃ w2, w1.alloc (.cells (((((((((((((((Tryz.zeroCells53.setIfInBounds 0 (.int .i64 n)).setIfInBounds 1 (.slice A l k)).setIfInBounds 2 (.int .i64 f)).setIfInBounds 3 (.int .i64 dmin)).setIfInBounds 4 (.int .i64 dmax)).setIfInBounds 5 (.int .i64 rho)).setIfInBounds 6 (.int .i64 slew)).setIfInBounds 7 (.int .i64 round)).setIfInBounds 8 (.int .i64 window)).setIfInBounds 9 (.int .i64 attend)).setIfInBounds 10 (.int .i64 seen)).setIfInBounds 11 (.int .i64 hist)).setIfInBounds 12 (.int .i64 fly)).setIfInBounds 13 (.int .i64 quota)).setIfInBounds 14 (.int .i64 body)) 53) = w2 := ⟨_, rfl⟩
  have hs2 : w2.heap.size = w.heap.size + 1 + 1 := by rw [← hw2]; simp; omega
  rw [hw2] at k2 k3
  rw [hs1] at k2
  have kc0 := k0.1 0 _ rfl
  have kc1 := k0.1 1 _ rfl
  have kc2 := k0.1 2 _ rfl
  have kc3 := k0.1 3 _ rfl
  have kc4 := k0.1 4 _ rfl
  have kc5 := k0.1 5 _ rfl
  have kc6 := k0.1 6 _ rfl
  have kc7 := k0.1 7 _ rfl
  have kc8 := k0.1 8 _ rfl
  have kc9 := k0.1 9 _ rfl
  have kc10 := k0.1 10 _ rfl
  have kc11 := k0.1 11 _ rfl
  have kc12 := k0.1 12 _ rfl
  have kc13 := k0.1 13 _ rfl
  have kc14 := k0.1 14 _ rfl
  have k01 := k0.keep k3
  have kd0 := k01.1 0 _ rfl
  have kd1 := k01.1 1 _ rfl
  have kd2 := k01.1 2 _ rfl
  have kd3 := k01.1 3 _ rfl
  have kd4 := k01.1 4 _ rfl
  have kd5 := k01.1 5 _ rfl
  have kd6 := k01.1 6 _ rfl
  have kd7 := k01.1 7 _ rfl
  have kd8 := k01.1 8 _ rfl
  have kd9 := k01.1 9 _ rfl
  have kd10 := k01.1 10 _ rfl
  have kd11 := k01.1 11 _ rfl
  have kd12 := k01.1 12 _ rfl
  have kd13 := k01.1 13 _ rfl
  have kd14 := k01.1 14 _ rfl

  have HK := Lib.hid (And.intro (k1.trans (k3.mono k1.size)) (And.intro (k0.keep k3) k2))
  have CK := Lib.hid (CK w2 HK.out.1)
  have CG := Lib.hid CG
  have HSZ := Lib.hid (And.intro hs1 hs2)
  have hns : w.heap.size ≠ w.heap.size + 1 := by omega
  have HAR := Lib.hid (And.intro hA (And.intro hT hfit))
  clear k0 k01 k1 k2 k3 hs2 hA hT hfit h9 hl hm
  by_cases h0 : FN = 0
  · subst h0
    have HGE := HG0.out rfl
    have HE := Lib.hid HGE
    clear HGE
    go_enter Tryz.func6, Tryz.ntmps6
    go_wp2_with fail
    refine CK.out.mono ?_
    rintro e w3 ⟨rfl, hb3⟩
    have hB3 : Below w.heap.size w w3 := HK.out.1.trans (hb3.mono HK.out.1.size)
    have q0 := HK.out.2.1.keep hb3
    have q2 := HK.out.2.2.keep hb3
    have kc0 := q0.1 0 _ rfl
    have kc1 := q0.1 1 _ rfl
    have C2 := Lib.hid (CG.out w3 hB3)
    have H3 := Lib.hid (And.intro hb3 (And.intro hB3 (And.intro q0 q2)))
    clear hb3 hB3 q0 q2 kd0 kd1 kd2 kd3 kd4 kd5 kd6 kd7 kd8 kd9 kd10 kd11 kd12 kd13 kd14 kc2 kc3 kc4 kc5 kc6 kc7 kc8 kc9 kc10 kc11 kc12 kc13 kc14
    go_wp2_with fail
    refine C2.out.mono ?_
    rintro e w4 ⟨hb4, hok, hbad⟩
    obtain ⟨G, R, rfl, hgr, hG, hR⟩ := hok HE.out.1
    have q4 := H3.out.2.2.2.keep hb4
    have g15 := q4.2 15 (by rw [mkZ_len]; omega)
    have g1 := q4.2 1 (by rw [mkZ_len]; omega)
    have c15 := q4.1 15 _ rfl
    have c1 := q4.1 1 _ rfl
    have hsz := H3.out.1.size
    have HF : Hid (FamPost ⟨n, f, dmin, dmax, rho, slew, round, window, attend, seen, hist, fly, quota, body⟩ L w (.returned (.pointer (some ⟨w.heap.size + 1, 0, none⟩))) ((w4.setCell ⟨w.heap.size + 1, 15, none⟩ (.pointer (some ⟨G, 0, none⟩))).setCell ⟨w.heap.size + 1, 1, none⟩ (.slice none 0 0))) := by
      refine HP.out _ _ ⟨w.heap.size + 1, rfl, by omega, ?_, fun _ => ⟨w4.heap.size, G, R, .slice none 0 0, [], ?_⟩, fun h => absurd rfl h⟩
      · exact ((H3.out.2.1.trans (hb4.mono H3.out.2.1.size)).setCell (by simp) _).setCell (by simp) _
      · have q5 := (q4.put 15 (by rw [mkZ_len]; omega) (.pointer (some ⟨G, 0, none⟩))).put 1 (by rw [List.length_set, mkZ_len]; omega) (.slice none 0 0)
        have hnG : w.heap.size + 1 ≠ G := by have := HSZ.out.2; omega
        have hnR : w.heap.size + 1 ≠ R := by have := HSZ.out.2; omega
        have hn2 : 2 ≤ n := HE.out.2
        have hlen : (nearL n.toNat L).length = n.toNat := HNL.out
        refine ⟨fun o x hx => q5.1 o x (mkZ_get _ A l k G o x hx), fun o ho => q5.2 o (by rw [List.length_set, List.length_set, mkZ_len]; exact ho), ?_, hnG, hnR, ⟨?_, hgr.ltG, ?_⟩, World.ownsRow_nil _ _ _ _, rfl, fun x hx => by simp at hx, ⟨by decide, by decide⟩, rfl, fun x hx => by unfold S0 at hx; simp only [List.mem_replicate] at hx; rw [hx.2]; exact Nat.zero_le _, by simp⟩
        · exact (hgr.kept (Below.heap_setCell _ _ _ _ (fun e => hnG e.symm)) (Below.heap_setCell _ _ _ _ (fun e => hnR e.symm))).kept (Below.heap_setCell _ _ _ _ (fun e => hnG e.symm)) (Below.heap_setCell _ _ _ _ (fun e => hnR e.symm))
        · have := hb4.size; have := HSZ.out.2; omega
        · exact hgr.row.lt (by rw [List.length_map, hlen]; omega)
    clear hgr hok hbad q4 hb4
    go_wp2
    go_ret
    exact HF.out
  · have hne : ((FN : Int) == 0) = false := by rw [beq_eq_false_iff_ne]; omega
    have HV : Hid ((if FN = 0 then (0 : Int) else 17) = 17) := if_neg h0
    rw [HV.out] at CK
    have H0 := Lib.hid h0
    clear h0 hne
    go_enter Tryz.func6, Tryz.ntmps6
    go_wp2_with fail
    refine CK.out.mono ?_
    rintro e w3 ⟨rfl, hb3⟩
    have HF : Hid (FamPost ⟨n, f, dmin, dmax, rho, slew, round, window, attend, seen, hist, fly, quota, body⟩ L w (.returned (.pointer (some ⟨w.heap.size + 1, 0, none⟩))) w3) := by
      have q2 := HK.out.2.2.keep hb3
      refine HP.out _ _ ⟨w.heap.size + 1, rfl, by omega, HK.out.1.trans (hb3.mono HK.out.1.size), fun h => absurd h H0.out, fun _ => ⟨?_, q2.1 15 _ rfl, q2.1 17 _ rfl, q2.1 82 _ rfl⟩⟩
      exact q2.lt (by rw [mkZ_len]; omega)
    clear hb3
    go_wp2
    go_ret
    exact HF.out
end Go.Proofs.YtjclhjijpailoaaGreatDoor

namespace Go.Proofs.YtjclhjijpailoaaGreatDoor
open Go.RowKit Law
set_option linter.unusedVariables false
set_option linter.unusedSimpArgs false
set_option maxRecDepth 100000

def FActsAt (w : World) (A : Option Addr) (l : List Fd) : Prop := ∀ k a, l[k]? = some a → ∃ b off, A = some ⟨b, off, none⟩ ∧ b < w.heap.size ∧ ∃ x, IsSl x ∧ ∀ j v, (a.cells x)[j]? = some v → w.cell? ⟨b, off + k * 9 + j, none⟩ = some v
theorem FActsAt.below {w w' : World} {A : Option Addr} {l : List Fd} (h : FActsAt w A l) (hb : Below w.heap.size w w') : FActsAt w' A l := fun k a ha => by
  obtain ⟨b, off, rfl, hlt, x, hx, hc⟩ := h k a ha
  exact ⟨b, off, rfl, Nat.lt_of_lt_of_le hlt hb.size, x, hx, fun j v hv => by rw [hb.cell (p := ⟨b, off + k * 9 + j, none⟩) hlt]; exact hc j v hv⟩
theorem FActsAt.at_ {w : World} {A : Option Addr} {l : List Fd} (h : FActsAt w A l) {k : Nat} (hk : k < l.length) : ∃ b off x, A = some ⟨b, off, none⟩ ∧ b < w.heap.size ∧ IsSl x ∧ ∀ j v, (l[k].cells x)[j]? = some v → w.cell? ⟨b, off + k * 9 + j, none⟩ = some v := by
  obtain ⟨b, off, hA, hlt, x, hx, hc⟩ := h k l[k] (List.getElem?_eq_getElem hk)
  exact ⟨b, off, x, hA, hlt, hx, hc⟩
theorem flatA_at : ∀ (l : List Fd) (vs : List Value) (k : Nat) (a : Fd), l.length = vs.length → l[k]? = some a → ∃ x, x ∈ vs ∧ ∀ j v, (a.cells x)[j]? = some v → (flatA l vs)[k * 9 + j]? = some v
  | [], _, k, a, _, h => by simp at h
  | a0 :: l, [], k, a, hl, _ => by simp at hl
  | a0 :: l, x0 :: vs, 0, a, hl, h => by
    simp at h
    subst h
    refine ⟨x0, by simp, fun j v hv => ?_⟩
    have hj : j < 9 := by
      have := (List.getElem?_eq_some_iff.1 hv).1
      simpa [Fd.cells] using this
    rw [Nat.zero_mul, Nat.zero_add]
    unfold flatA
    rw [List.zipWith_cons_cons, List.flatten_cons, List.getElem?_append_left (by simpa [Fd.cells] using hj)]
    exact hv
  | a0 :: l, x0 :: vs, k + 1, a, hl, h => by
    obtain ⟨x, hxm, hx⟩ := flatA_at l vs k a (by simpa using hl) (by simpa using h)
    refine ⟨x, by simp [hxm], fun j v hv => ?_⟩
    have := hx j v hv
    unfold flatA at this ⊢
    rw [List.zipWith_cons_cons, List.flatten_cons, List.getElem?_append_right (by simp [Fd.cells]; omega)]
    rw [show (k + 1) * 9 + j - (a0.cells x0).length = k * 9 + j by simp [Fd.cells]; omega]
    exact this
theorem flatA_one : ∀ (l : List Fd) (vs : List Value), (∀ x ∈ vs, IsSl x) → ∀ u ∈ flatA l vs, u.oneCell' = true
  | [], _, _, u, hu => by simp [flatA] at hu
  | a0 :: l, [], _, u, hu => by simp [flatA] at hu
  | a0 :: l, x0 :: vs, h, u, hu => by
    unfold flatA at hu
    rw [List.zipWith_cons_cons, List.flatten_cons, List.mem_append] at hu
    rcases hu with hu | hu
    · simp only [Fd.cells, List.mem_cons, List.not_mem_nil, or_false] at hu
      rcases hu with rfl | rfl | rfl | rfl | rfl | rfl | rfl | rfl | rfl <;> first | rfl | exact (h _ (by simp)).one
    · exact flatA_one l vs (fun x hx => h x (by simp [hx])) u hu
theorem flatA_len : ∀ (l : List Fd) (vs : List Value), l.length = vs.length → (flatA l vs).length = l.length * 9
  | [], _, _ => by simp [flatA]
  | a0 :: l, [], h => by simp at h
  | a0 :: l, x0 :: vs, h => by
    have := flatA_len l vs (by simpa using h)
    unfold flatA at this ⊢
    rw [List.zipWith_cons_cons, List.flatten_cons, List.length_append, this]
    simp [Fd.cells]; omega
theorem facts_of_own {w : World} {B n c : Nat} {A : Option Addr} {l : List Fd} {vs : List Value} (h : w.ownsRow B 42 9 (.slice A n c) l.length (flatA l vs)) (hl : l.length = vs.length) (h1 : ∀ x ∈ vs, IsSl x) : FActsAt w A l := by
  intro k a ha
  have hk : k < l.length := (List.getElem?_eq_some_iff.1 ha).1
  obtain ⟨g, cap, hv, _, hg⟩ := h.form (by omega)
  obtain ⟨rfl, _, _⟩ : A = some ⟨g, 0, none⟩ ∧ n = l.length ∧ c = cap := by simpa using hv
  obtain ⟨x, hxm, hx⟩ := flatA_at l vs k a hl ha
  refine ⟨g, 0, rfl, hg, x, h1 x hxm, fun j v hj => ?_⟩
  have := h.cells (g := g) rfl (k * 9 + j) v (hx j v hj)
  rw [Lib.add_plain, Nat.zero_add] at this
  rw [Nat.zero_add]
  exact this
def ActsPost (l : List Fd) (w : World) (e : Ending) (w' : World) : Prop := ∃ A c, e = .returned (.slice A l.length c) ∧ FActsAt w' A l ∧ Below w.heap.size w w' ∧ ∀ b off, A = some ⟨b, off, none⟩ → w.heap.size ≤ b
set_option maxHeartbeats 3200000 in
theorem famClone {w : World} {B : Nat} {v : Value} {l : List Fd} {vs : List Value} (h : w.ownsRow B 42 9 v l.length (flatA l vs)) (hl : l.length = vs.length) (h1 : ∀ x ∈ vs, IsSl x) (hm : l.length ≤ 1000000) :
    Calls Tryz.prog 29 #[v] w (ActsPost l w) := by
  obtain ⟨i0, hi, hz0, hz1, hz2⟩ := info_parts actInfo
  obtain ⟨A, c, rfl, hc⟩ := (OwnOr.form (.inl h) : ∃ A c, v = .slice A l.length c ∧ l.length ≤ c)
  have hP : ∀ e w', (∃ A c, e = .returned (.slice A l.length c) ∧ FActsAt w' A l ∧ Below w.heap.size w w' ∧ ∀ b off, A = some ⟨b, off, none⟩ → w.heap.size ≤ b) → ActsPost l w e w' := fun _ _ h => h
  have HP := Lib.hid hP
  cases A with
  | none =>
    have h0 : l = [] := by
      rcases h.2 with ⟨_, h0⟩ | ⟨g, cap, cur, hv, _⟩
      · exact List.eq_nil_of_length_eq_zero h0
      · cases hv
    subst h0
    have hc0 : c = 0 := by
      rcases h.2 with ⟨hv, h0⟩ | ⟨g, cap, cur, hv, _⟩
      · injection hv
      · cases hv
    subst hc0
    clear h hP
    have hq : ∀ W, (binOp .eql 36 (.slice none 0 0) (.slice none 0 0)).run Tryz.prog W = .ok (.bool true) W := fun W => by kernel_rfl
    go_enter Tryz.func29, Tryz.ntmps29
    go_wp2
    go_ret
    exact HP.out _ _ ⟨none, 0, rfl, fun k a ha => by simp at ha, Below.refl _ _, fun _ _ h => by cases h⟩
  | some ad =>
    obtain ⟨g, hgA⟩ : ∃ g, ad = ⟨g, 0, none⟩ := by
      rcases h.2 with ⟨hv, h0⟩ | ⟨g, cap, cur, hv, _⟩
      · cases hv
      · injection hv with e1
        injection e1 with e1
        exact ⟨g, e1⟩
    subst hgA
    have h00 := World.ownsRow_made (base := w.heap.size) (e := 42) (size := 9) w #[] 0 (Nat.le_refl _) (by simp [maxLen]) rfl
    have hb0 : Below w.heap.size w (w.alloc (.cells #[] 42)) := (Below.refl _ _).alloc (Nat.le_refl _) _
    have HX := Lib.hid (And.intro h (And.intro hl (And.intro h1 hm)))
    have hmN := hm
    obtain ⟨n, hn⟩ : ∃ n, l.length = n := ⟨_, rfl⟩
    rw [hn] at hmN
    have HN := Lib.hid hn
    rw [hn]
    clear h hl h1 hP hm hn
    have hq : ∀ W, (binOp .eql 36 (.slice (some ⟨g, 0, none⟩) n c) (.slice none 0 0)).run Tryz.prog W = .ok (.bool false) W := fun W => by kernel_rfl
    go_enter Tryz.func29, Tryz.ntmps29
    go_wp2_with (at_builtin; refine wpList_append_copy _ rfl _ _ 36 rfl w.heap.size 42 i0 _ 9 80 Tryz.underlying36 hi hz0 hz1 hz2 rfl (by decide) _ _ _ rfl h00 (some ⟨g, 0, none⟩) n c (flatA l vs) rfl ?c0 ?c1 ?c2 ?c3 ?c4 ?c5 ?c6 ?_)
    case c0 => intro hx; cases hx
    case c1 => rw [flatA_len _ _ HX.out.2.1, HN.out]
    case c2 =>
      intro ad had j u hu
      injection had with had
      subst had
      have h9 := ownsRow_kept HX.out.1 hb0
      exact h9.cells (g := g) rfl j u hu
    case c3 => exact flatA_one _ _ HX.out.2.2.1
    case c4 => unfold maxLen; omega
    case c5 => omega
    case c6 => simp
    intro v' w3 row hown hgrow hrow
    have hb3 : Below w.heap.size w w3 := hb0.grown hgrow (by simp) hrow
    have hown : w3.ownsRow w.heap.size 42 9 v' n (flatA l vs) := by simpa using hown
    obtain ⟨A1, c1, rfl, hc1⟩ := (OwnOr.form (.inl hown) : ∃ A c, v' = .slice A n c ∧ n ≤ c)
    have HF : Hid (ActsPost l w (.returned (.slice A1 n c1)) w3) := by
      rw [← HN.out] at hown ⊢
      exact HP.out _ _ ⟨A1, c1, rfl, facts_of_own hown HX.out.2.1 HX.out.2.2.1, hb3, fun b off h => (hown.lt b (by rw [h]; rfl)).1⟩
    clear hown hgrow hrow hb3 hb0 h00
    go_wp2
    go_ret
    exact HF.out
theorem famActs {w : World} {M base : Nat} {c : Cn} {G R : Nat} {near : List Nat} {S : MS} (h : MkAt w M base c G R near S) (hm : S.acts.length ≤ 1000000) :
    Calls Tryz.prog 10 #[.pointer (some ⟨M, 0, none⟩)] w (ActsPost S.acts w) := by
  obtain ⟨v, vs, h⟩ := h
  have c82 := h.cell 82 _ rfl
  have C := Lib.hid (famClone h.own h.len h.one hm)
  clear h hm
  go_enter Tryz.func10, Tryz.ntmps10
  go_wp2_with fail
  refine C.out.mono ?_
  rintro e w1 h1
  obtain ⟨A, c, rfl, hA, hb, hn⟩ := h1
  have HF : Hid (ActsPost S.acts w (.returned (.slice A S.acts.length c)) w1) := ⟨A, c, rfl, hA, hb, hn⟩
  clear hA hb hn
  go_wp2
  go_ret
  exact HF.out
theorem famClone0 (w : World) : Calls Tryz.prog 29 #[.slice none 0 0] w fun e w' => e = .returned (.slice none 0 0) ∧ w = w' := by
  have hq : ∀ W, (binOp .eql 36 (.slice none 0 0) (.slice none 0 0)).run Tryz.prog W = .ok (.bool true) W := fun W => by kernel_rfl
  go_enter Tryz.func29, Tryz.ntmps29
  go_wp2
  go_ret
  exact ⟨rfl, rfl⟩
theorem famActs0 {w : World} {M : Nat} (h : MkNil w M) : Calls Tryz.prog 10 #[.pointer (some ⟨M, 0, none⟩)] w fun e w' => e = .returned (.slice none 0 0) ∧ w = w' := by
  obtain ⟨hlt, c15, c17, c82⟩ := h
  go_enter Tryz.func10, Tryz.ntmps10
  go_wp2_with fail
  refine (famClone0 _).mono ?_
  rintro e w1 ⟨rfl, rfl⟩
  go_wp2
  go_ret
  exact ⟨rfl, rfl⟩
theorem famActsNil (w : World) : Calls Tryz.prog 10 #[.pointer none] w fun e w' => e = .returned (.slice none 0 0) ∧ w = w' := by
  go_enter Tryz.func10, Tryz.ntmps10
  go_wp2
  go_ret
  exact ⟨rfl, rfl⟩
theorem famFaultyNil (w : World) : Calls Tryz.prog 9 #[.pointer none] w fun e w' => e = .returned (.int .u64 0) ∧ w = w' := by
  go_enter Tryz.func9, Tryz.ntmps9
  go_wp2
  go_ret
  exact ⟨rfl, rfl⟩
theorem famFaultyC {w : World} {M x : Nat} (h : w.cell? ⟨M, 17, none⟩ = some (.int .u64 (x : Int))) : Calls Tryz.prog 9 #[.pointer (some ⟨M, 0, none⟩)] w fun e w' => e = .returned (.int .u64 (x : Int)) ∧ w = w' := by
  go_enter Tryz.func9, Tryz.ntmps9
  go_wp2
  go_ret
  exact ⟨rfl, rfl⟩
theorem famAddNil (b : Int) (w : World) : Calls Tryz.prog 7 #[.pointer none, .int .u8 b] w fun e w' => e = .returned (.tuple #[]) ∧ w = w' := by
  go_enter Tryz.func7, Tryz.ntmps7
  go_wp2
  refine bodyPost_ret (v := .tuple #[]) (by simp [results, Tryz.results7, go_sem]) rfl ⟨rfl, rfl⟩
theorem famAdd0_ {w : World} {M : Nat} (h : MkNil w M) (b : Int) : Calls Tryz.prog 7 #[.pointer (some ⟨M, 0, none⟩), .int .u8 b] w fun e w' => e = .returned (.tuple #[]) ∧ w = w' := by
  obtain ⟨hlt, c15, c17, c82⟩ := h
  go_enter Tryz.func7, Tryz.ntmps7
  go_wp2
  refine bodyPost_ret (v := .tuple #[]) (by simp [results, Tryz.results7, go_sem]) rfl ⟨rfl, rfl⟩
/-- A row of bytes, as numbers. -/
def URow (w : World) (M : Nat) (A : Option Addr) (bs : List Nat) : Prop := ∀ (k x : Nat), bs[k]? = some x → ∃ b off, A = some ⟨b, off, none⟩ ∧ b < M ∧ w.cell? ⟨b, off + k, none⟩ = some (.int .u8 (x : Int))
set_option maxHeartbeats 1600000 in
theorem famAll0 {w : World} {M : Nat} (h : MkNil w M) (A : Option Addr) (c : Nat) (bs : List Nat) (n : Nat) (hn : bs.length = n) (hm : n ≤ 1000) (hB : URow w M A bs) : Calls Tryz.prog 30 #[.pointer (some ⟨M, 0, none⟩), .slice A n c] w fun e w' => e = .returned (.tuple #[]) ∧ w = w' := by
  have C := Lib.hid (fun b => famAdd0_ h b)
  have HB := Lib.hid (And.intro hn hB)
  clear h hn hB
  go_enter Tryz.func30, Tryz.ntmps30
  go_wp2
  go_loop [8] (fun i => ∃ k : Nat, k ≤ n ∧ i = .int .i64 k) (fun i => n - (intOf i).toNat)
  case atStart => exact ⟨0, Nat.zero_le _, rfl⟩
  case round =>
    obtain ⟨k, hk, rfl⟩ := hrel
    by_cases hlt : k < n
    · have hlI : (k : Int) < (n : Int) := by omega
      have hkI : (k : Int) ≤ 1000 := by omega
      obtain ⟨b, off, rfl, -, hc⟩ := HB.out.2 k _ (List.getElem?_eq_getElem (by rw [HB.out.1]; exact hlt))
      go_wp2_with fail
      refine (C.out _).mono ?_
      rintro e w' ⟨rfl, rfl⟩
      go_wp2
      go_round
      case rel => exact ⟨k + 1, by omega, by go_num⟩
      case measure => simp [intOf]; omega
    · obtain rfl : k = n := by omega
      go_wp2
      go_end0
      exact ⟨rfl, rfl⟩
theorem addN_len (near : List Nat) (c : Cn) (S : MS) (b : Nat) : (addN near c S b).acts.length ≤ S.acts.length + 66 := by
  have hc := cnt_le near (b / 8 % near.length)
  unfold addN
  simp only []
  repeat' split
  all_goals simp [sendN, riseN, crashN, MS.add, MS.count, MS.down, MS.faulty, ftsN_len]
  all_goals omega
theorem foldl_len (near : List Nat) (c : Cn) : ∀ (bs : List Nat) (S : MS), (bs.foldl (addN near c) S).acts.length ≤ S.acts.length + 66 * bs.length
  | [], S => by simp
  | b :: bs, S => by
    have h1 := foldl_len near c bs (addN near c S b)
    have h2 := addN_len near c S b
    rw [List.foldl_cons, List.length_cons]
    omega
set_option maxHeartbeats 1600000 in
theorem famAll {w : World} {M base : Nat} {c : Cn} {G R : Nat} {near : List Nat} {S : MS} (h : MkAt w M base c G R near S) (hc : c.n = (near.length : Int)) (hN : 1 ≤ near.length) (hr : 0 ≤ c.rho ∧ c.rho ≤ 64) (A : Option Addr) (cp : Nat) (bs : List Nat) (n : Nat) (hn : bs.length = n) (hm : n ≤ 1000) (hB : URow w M A bs) (hb : ∀ x ∈ bs, x < 256) (hl : S.acts.length ≤ 900000) :
    Calls Tryz.prog 30 #[.pointer (some ⟨M, 0, none⟩), .slice A n cp] w (MkPost w M base c G R near (bs.foldl (addN near c) S)) := by
  have hlt : M < base := by obtain ⟨v, vs, h⟩ := h; exact h.lt.1
  have HB := Lib.hid (And.intro hn (And.intro hB (And.intro hb (And.intro hlt (And.intro hl (And.intro hc (And.intro hN hr)))))))
  have HH := Lib.hid h
  clear h hn hB hb hlt hl hc hN hr
  go_enter Tryz.func30, Tryz.ntmps30
  go_wp2
  go_loopw [8] (fun i wr => ∃ k : Nat, k ≤ n ∧ i = .int .i64 k ∧ MkAt wr M base c G R near ((bs.take k).foldl (addN near c) S) ∧ FrM M base w wr) (fun i _ => n - (intOf i).toNat)
  case atStart => exact ⟨0, Nat.zero_le _, rfl, HH.out, FrM.refl _ _ _⟩
  case round =>
    obtain ⟨k, hk, rfl, hM, hF⟩ := hrel
    by_cases hlt : k < n
    · have hlI : (k : Int) < (n : Int) := by omega
      have hkI : (k : Int) ≤ 1000 := by omega
      obtain ⟨hn, hB, hb, hMb, hl, hc, hN, hr⟩ := HB.out
      have hkl : k < bs.length := by rw [hn]; exact hlt
      obtain ⟨b, off, rfl, hbM, hcell⟩ := hB k _ (List.getElem?_eq_getElem hkl)
      have hcw : wr.cell? ⟨b, off + k, none⟩ = some (.int .u8 ((bs[k] : Nat) : Int)) := (cell_same (hF.block b (by omega) (by omega))).trans hcell
      have hfl := foldl_len near c (bs.take k) S
      rw [List.length_take] at hfl
      have C := Lib.hid (famAdd hM hc hN hr bs[k] (hb _ (List.getElem_mem hkl)) (by omega))
      have HF := Lib.hid hF
      have HX : Hid ((bs.take (k + 1)).foldl (addN near c) S = addN near c ((bs.take k).foldl (addN near c) S) bs[k]) := by
        unfold Hid
        rw [List.take_succ_eq_append_getElem hkl, List.foldl_append]
        rfl
      clear hM hF hcell hn hB hb hl hc hN hr hfl
      generalize bs[k] = xb at *
      go_wp2_with fail
      refine C.out.mono ?_
      rintro e w1 ⟨rfl, h1, hf1⟩
      have H1 := Lib.hid (And.intro h1 (HF.out.trans hf1))
      clear h1 hf1 hcw
      go_wp2
      go_roundw
      case rel => exact ⟨k + 1, by omega, by go_num, by rw [HX.out]; exact H1.out.1, H1.out.2⟩
      case measure => simp [intOf]; omega
    · obtain rfl : k = n := by omega
      have hn := HB.out.1
      have H1 := Lib.hid (And.intro hM hF)
      have HX : Hid (bs.take k = bs) := by rw [← hn]; exact List.take_length
      clear hM hF hn
      go_wp2
      go_end0
      exact ⟨rfl, by rw [← HX.out]; exact H1.out.1, H1.out.2⟩
def ScriptPost (c : Cn) (L : List Pr) (bs : List Nat) (w : World) (e : Ending) (w' : World) : Prop := Below w.heap.size w w' ∧
  (faultN c L ≠ 0 → e = .returned (.slice none 0 0)) ∧
  (faultN c L = 0 → ∃ A k, e = .returned (.slice A (bs.foldl (addN (nearL c.n.toNat L) c) S0).acts.length k) ∧ FActsAt w' A (bs.foldl (addN (nearL c.n.toNat L) c) S0).acts)
end Go.Proofs.YtjclhjijpailoaaGreatDoor

namespace Go.Proofs.YtjclhjijpailoaaGreatDoor
open Go.RowKit Law
set_option linter.unusedVariables false
set_option linter.unusedSimpArgs false
set_option maxRecDepth 100000

theorem fault_good {c : Cn} {L : List Pr} (h : faultN c L = 0) : (0 ≤ c.rho ∧ c.rho ≤ 64) ∧ 2 ≤ c.n ∧ gErr c.n L = 0 := by
  unfold faultN at h
  split at h
  · cases h
  · rename_i h1
    split at h
    · cases h
    · split at h
      · cases h
      · rename_i h3
        have h3 : enoughB c = true := by simpa using h3
        unfold enoughB goodC goodRS at h3
        simp only [Bool.and_eq_true, decide_eq_true_eq] at h3
        have h4 : gErr c.n L = 0 := Decidable.byContradiction fun e => h1 (.inl e)
        omega
theorem URow.later {w w' : World} {M M' : Nat} {B : Option Addr} {bs : List Nat} (h : URow w M B bs) (hb : Below M w w') (hM : M ≤ M') : URow w' M' B bs := fun k x hx => by
  obtain ⟨b, off, rfl, hlt, hc⟩ := h k x hx
  exact ⟨b, off, rfl, by omega, (hb.cell (p := ⟨b, off + k, none⟩) hlt).trans hc⟩
set_option maxHeartbeats 3200000 in
theorem famScript (c : Cn) (A : Option Addr) (l k : Nat) (L : List Pr) (hl : L.length = l) (hfit : ∀ x ∈ L, PrF x) (hm : l ≤ 9223372036854775807) (h9 : gErr c.n L = 0 → c.n < 9) (B : Option Addr) (kb : Nat) (bs : List Nat) (nb : Nat) (hnb : bs.length = nb) (hmb : nb ≤ 1000) (hbs : ∀ x ∈ bs, x < 256) (w : World) (hB : URow w w.heap.size B bs) (hA : LinksAt w A L) (hT : T64 w) :
    Calls Tryz.prog 12 #[.agg (c.cells A l k).toArray, .slice B nb kb] w (ScriptPost c L bs w) := by
  have CN := fun (W : World) (hW : Below w.heap.size w W) => famNew c A l k L hl hfit hm h9 W (hA.below hW) (hT.below hW)
  have HP : Hid (∀ e w', (Below w.heap.size w w' ∧ (faultN c L ≠ 0 → e = .returned (.slice none 0 0)) ∧ (faultN c L = 0 → ∃ A k, e = .returned (.slice A (bs.foldl (addN (nearL c.n.toNat L) c) S0).acts.length k) ∧ FActsAt w' A (bs.foldl (addN (nearL c.n.toNat L) c) S0).acts)) → ScriptPost c L bs w e w') := fun _ _ h => h
  have HG := Lib.hid (fun h => fault_good (c := c) (L := L) h)
  have HNL : Hid ((nearL c.n.toNat L).length = c.n.toNat) := nearL_len _ _
  have HBS := Lib.hid (And.intro hnb (And.intro hbs hB))
  obtain ⟨FN, hFN⟩ : ∃ FN, faultN c L = FN := ⟨_, rfl⟩
  unfold FamPost at CN
  rw [hFN] at HP HG CN
  obtain ⟨near, hnear⟩ : ∃ near, nearL c.n.toNat L = near := ⟨_, rfl⟩
  rw [hnear] at HP CN HNL
  obtain ⟨S1, hS1⟩ : ∃ S1, bs.foldl (addN near c) S0 = S1 := ⟨_, rfl⟩
  rw [hS1] at HP
  have HS1 := Lib.hid hS1
  have HL : Hid (S1.acts.length ≤ 1000000) := by
    have := foldl_len near c bs S0
    rw [hS1] at this
    have e0 : S0.acts.length = 0 := rfl
    unfold Hid
    omega
  have HC : Hid (2 ≤ c.n → c.n = (near.length : Int)) := fun h => by rw [HNL.out]; omega
  clear hFN hnear hS1 hB hA hT hbs hnb hfit h9 hl hm
  obtain ⟨n, f, dmin, dmax, rho, slew, round, window, attend, seen, hist, fly, quota, body⟩ := c
  have k0 := boxF_made w [.int .i64 n, .slice A l k, .int .i64 f, .int .i64 dmin, .int .i64 dmax, .int .i64 rho, .int .i64 slew, .int .i64 round, .int .i64 window, .int .i64 attend, .int .i64 seen, .int .i64 hist, .int .i64 fly, .int .i64 quota, .int .i64 body] 26
  have k1 := (Below.refl w.heap.size w).alloc (Nat.le_refl _) (.cells #[.int .i64 n, .slice A l k, .int .i64 f, .int .i64 dmin, .int .i64 dmax, .int .i64 rho, .int .i64 slew, .int .i64 round, .int .i64 window, .int .i64 attend, .int .i64 seen, .int .i64 hist, .int .i64 fly, .int .i64 quota, .int .i64 body] 26)
  obtain ⟨w1, hw1⟩ : ∃ w1, w.alloc (.cells #[.int .i64 n, .slice A l k, .int .i64 f, .int .i64 dmin, .int .i64 dmax, .int .i64 rho, .int .i64 slew, .int .i64 round, .int .i64 window, .int .i64 attend, .int .i64 seen, .int .i64 hist, .int .i64 fly, .int .i64 quota, .int .i64 body] 26) = w1 := ⟨_, rfl⟩
  have hs1 : w1.heap.size = w.heap.size + 1 := by rw [← hw1]; simp
  rw [hw1] at k0 k1
  have kc0 := k0.1 0 _ rfl
  have kc1 := k0.1 1 _ rfl
  have kc2 := k0.1 2 _ rfl
  have kc3 := k0.1 3 _ rfl
  have kc4 := k0.1 4 _ rfl
  have kc5 := k0.1 5 _ rfl
  have kc6 := k0.1 6 _ rfl
  have kc7 := k0.1 7 _ rfl
  have kc8 := k0.1 8 _ rfl
  have kc9 := k0.1 9 _ rfl
  have kc10 := k0.1 10 _ rfl
  have kc11 := k0.1 11 _ rfl
  have kc12 := k0.1 12 _ rfl
  have kc13 := k0.1 13 _ rfl
  have kc14 := k0.1 14 _ rfl
  have CN := Lib.hid (CN w1 k1)
  have HK := Lib.hid k1
  have HZ := Lib.hid hs1
  clear k0 k1 hs1
  by_cases h0 : FN = 0
  · subst h0
    go_enter Tryz.func12, Tryz.ntmps12
    go_wp2_with fail
    refine CN.out.mono ?_
    rintro e w2 ⟨M, rfl, hM, hb2, hok, -⟩
    obtain ⟨base, G, R, hAt⟩ := hok (by trivial)
    have hg := HG.out (by trivial)
    have C2 := Lib.hid (famAll hAt (HC.out hg.2.1) (by have := HC.out hg.2.1; omega) hg.1 B kb bs nb HBS.out.1 hmb (HBS.out.2.2.later (HK.out.trans (hb2.mono HK.out.size)) (by have := HZ.out; omega)) HBS.out.2.1 (by decide))
    have HB2 := Lib.hid (And.intro hM (HK.out.trans (hb2.mono HK.out.size)))
    have HLT : Hid (M ≤ base) := by obtain ⟨v, vs, h⟩ := hAt; have := h.lt; unfold Hid; omega
    clear hM hb2 hok hAt hg kc0 kc1 kc2 kc3 kc4 kc5 kc6 kc7 kc8 kc9 kc10 kc11 kc12 kc13 kc14
    go_wp2_with fail
    refine C2.out.mono ?_
    rintro e w3 ⟨rfl, h3, hf3⟩
    have HX : Hid (∀ x, x = S1 → x.acts.length = S1.acts.length) := fun x h => by rw [h]
    rw [HS1.out] at h3
    have C3 := Lib.hid (famActs h3 HL.out)
    have HB3 : Hid (Below w.heap.size w w3) := HB2.out.2.trans ((hf3.below HLT.out).mono (by have := HB2.out.1; have := HZ.out; omega))
    clear h3 hf3
    go_wp2_with fail
    refine C3.out.mono ?_
    rintro e w4 h4
    obtain ⟨A4, k4, rfl, hF4, hb4, -⟩ := h4
    have HF := Lib.hid (HP.out _ _ ⟨HB3.out.trans (hb4.mono HB3.out.size), fun h => absurd rfl h, fun _ => ⟨A4, k4, rfl, hF4⟩⟩)
    clear hF4 hb4
    go_wp2
    go_ret
    exact HF.out
  · have H0 := Lib.hid h0
    clear h0
    go_enter Tryz.func12, Tryz.ntmps12
    go_wp2_with fail
    refine CN.out.mono ?_
    rintro e w2 ⟨M, rfl, hM, hb2, -, hbad⟩
    have hN := hbad H0.out
    have C2 := Lib.hid (famAll0 hN B kb bs nb HBS.out.1 hmb (HBS.out.2.2.later (HK.out.trans (hb2.mono HK.out.size)) (by have := HZ.out; omega)))
    have C3 := Lib.hid (famActs0 hN)
    have HF := Lib.hid (HP.out (.returned (.slice none 0 0)) w2 ⟨HK.out.trans (hb2.mono HK.out.size), fun _ => rfl, fun h => absurd h H0.out⟩)
    clear hM hb2 hbad hN kc0 kc1 kc2 kc3 kc4 kc5 kc6 kc7 kc8 kc9 kc10 kc11 kc12 kc13 kc14
    go_wp2_with fail
    refine C2.out.mono ?_
    rintro e w3 ⟨rfl, rfl⟩
    go_wp2_with fail
    refine C3.out.mono ?_
    rintro e w3 ⟨rfl, rfl⟩
    go_wp2
    go_ret
    exact HF.out
set_option maxHeartbeats 3200000 in
theorem famWorst0 (c : Cn) (A : Option Addr) (l k : Nat) (L : List Pr) (hl : L.length = l) (hfit : ∀ x ∈ L, PrF x) (hm : l ≤ 9223372036854775807) (h9 : gErr c.n L = 0 → c.n < 9) (hF : faultN c L ≠ 0) (w : World) (hA : LinksAt w A L) (hT : T64 w) :
    Calls Tryz.prog 13 #[.agg (c.cells A l k).toArray] w fun e w' => e = .returned (.slice none 0 0) ∧ Below w.heap.size w w' := by
  have CN := fun (W : World) (hW : Below w.heap.size w W) => famNew c A l k L hl hfit hm h9 W (hA.below hW) (hT.below hW)
  unfold FamPost at CN
  obtain ⟨FN, hFN⟩ : ∃ FN, faultN c L = FN := ⟨_, rfl⟩
  rw [hFN] at CN hF
  have H0 := Lib.hid hF
  clear hFN hA hT hfit h9 hl hm hF
  obtain ⟨n, f, dmin, dmax, rho, slew, round, window, attend, seen, hist, fly, quota, body⟩ := c
  have k0 := boxF_made w [.int .i64 n, .slice A l k, .int .i64 f, .int .i64 dmin, .int .i64 dmax, .int .i64 rho, .int .i64 slew, .int .i64 round, .int .i64 window, .int .i64 attend, .int .i64 seen, .int .i64 hist, .int .i64 fly, .int .i64 quota, .int .i64 body] 26
  have k1 := (Below.refl w.heap.size w).alloc (Nat.le_refl _) (.cells #[.int .i64 n, .slice A l k, .int .i64 f, .int .i64 dmin, .int .i64 dmax, .int .i64 rho, .int .i64 slew, .int .i64 round, .int .i64 window, .int .i64 attend, .int .i64 seen, .int .i64 hist, .int .i64 fly, .int .i64 quota, .int .i64 body] 26)
  obtain ⟨w1, hw1⟩ : ∃ w1, w.alloc (.cells #[.int .i64 n, .slice A l k, .int .i64 f, .int .i64 dmin, .int .i64 dmax, .int .i64 rho, .int .i64 slew, .int .i64 round, .int .i64 window, .int .i64 attend, .int .i64 seen, .int .i64 hist, .int .i64 fly, .int .i64 quota, .int .i64 body] 26) = w1 := ⟨_, rfl⟩
  have hs1 : w1.heap.size = w.heap.size + 1 := by rw [← hw1]; simp
  rw [hw1] at k0 k1
  have kc0 := k0.1 0 _ rfl
  have kc1 := k0.1 1 _ rfl
  have kc2 := k0.1 2 _ rfl
  have kc3 := k0.1 3 _ rfl
  have kc4 := k0.1 4 _ rfl
  have kc5 := k0.1 5 _ rfl
  have kc6 := k0.1 6 _ rfl
  have kc7 := k0.1 7 _ rfl
  have kc8 := k0.1 8 _ rfl
  have kc9 := k0.1 9 _ rfl
  have kc10 := k0.1 10 _ rfl
  have kc11 := k0.1 11 _ rfl
  have kc12 := k0.1 12 _ rfl
  have kc13 := k0.1 13 _ rfl
  have kc14 := k0.1 14 _ rfl
  have CN := Lib.hid (CN w1 k1)
  have HK := Lib.hid k1
  clear k0 k1 hs1
  go_enter Tryz.func13, Tryz.ntmps13
  go_wp2_with fail
  refine CN.out.mono ?_
  rintro e w2 ⟨M, rfl, hM, hb2, -, hbad⟩
  obtain ⟨-, c15, -, -⟩ := hbad H0.out
  have HF := Lib.hid (HK.out.trans (hb2.mono HK.out.size))
  clear hM hb2 hbad kc0 kc1 kc2 kc3 kc4 kc5 kc6 kc7 kc8 kc9 kc10 kc11 kc12 kc13 kc14
  go_wp2
  go_ret
  exact ⟨rfl, HF.out⟩
/-! ### the chapter's example -/
theorem small_ok : faultN (sugC (smallC 3 1 1 0)) (fullL 3) = 0 := by decide +kernel
theorem works_acts : ([7].foldl (addN (nearL 3 (fullL 3)) (sugC (smallC 3 1 1 0))) S0).acts = [⟨3, 0, 0, 1, 0, 0⟩, ⟨3, 0, 0, 0, 1, 0⟩, ⟨6, 0, 0, 0, 0, 0⟩, ⟨4, 0, 0, 0, 0, 0⟩] := by decide +kernel
set_option maxHeartbeats 6400000 in
theorem works53 (w : World) (hT : T64 w) : Calls Tryz.prog 11 #[] w fun e w' => e = .returned (.bool true) ∧ Below w.heap.size w w' := by
  have CS := Lib.hid (rSmall 3 1 1 0 w)
  have HT := Lib.hid hT
  have hok := small_ok
  have hsn := sugC_n (smallC 3 1 1 0)
  have hfit := full_fit (n := 3) (by omega)
  have hlen : (fullL 3).length = 3 := by decide +kernel
  have hacts := works_acts
  unfold SmallPost at CS
  obtain ⟨sc, hsc⟩ : ∃ sc, sugC (smallC 3 1 1 0) = sc := ⟨_, rfl⟩
  rw [hsc] at CS hok hsn hacts
  obtain ⟨L, hL⟩ : ∃ L, fullL 3 = L := ⟨_, rfl⟩
  rw [show (3 : Int).toNat = 3 from rfl, hL] at CS
  rw [hL] at hok hfit hlen hacts
  rw [hlen] at CS
  have hn3 : sc.n = 3 := hsn
  have CP := Lib.hid (fun (A : Option Addr) (k : Nat) (B : Nat) (W : World) (hB : URow W W.heap.size (some ⟨B, 0, none⟩) [7]) (hA : LinksAt W A L) (hT : T64 W) => famScript sc A 3 k L hlen hfit (by omega) (fun _ => by omega) (some ⟨B, 0, none⟩) 1 [7] 1 rfl (by omega) (fun x hx => by simp at hx; omega) W hB hA hT)
  unfold ScriptPost at CP
  rw [show sc.n.toNat = 3 by omega, hacts, hok] at CP
  have HOK := Lib.hid hok
  clear hsc hL hfit hsn hn3 hT hok hlen hacts
  obtain ⟨n, f, dmin, dmax, rho, slew, round, window, attend, seen, hist, fly, quota, body⟩ := sc
  go_enter Tryz.func11, Tryz.ntmps11
  go_wp2_with fail
  refine CS.out.mono ?_
  rintro e w1 ⟨hb1, -, -, hgood⟩
  obtain ⟨A, k, rfl, hLA, hk⟩ := hgood (by omega) HOK.out
  simp only [Cn.cells, List.length_cons, List.length_nil]
  have hbx : Below w1.heap.size w1 ((w1.alloc (.cells #[.int .i64 n, .slice A 3 k, .int .i64 f, .int .i64 dmin, .int .i64 dmax, .int .i64 rho, .int .i64 slew, .int .i64 round, .int .i64 window, .int .i64 attend, .int .i64 seen, .int .i64 hist, .int .i64 fly, .int .i64 quota, .int .i64 body] 26)).alloc (.cells #[.int .u8 7] 5)) := ((Below.refl _ _).alloc (Nat.le_refl _) _).alloc (by simp) _
  have C2 := Lib.hid (CP.out A k (w1.heap.size + 1) _ (fun q x hq => by
    match q, hq with
    | 0, hq => simp at hq; subst hq; exact ⟨w1.heap.size + 1, 0, rfl, by simp, by simp⟩) (hLA.below hbx) ((HT.out.below hb1).below hbx))
  have HB := Lib.hid (hb1.trans (hbx.mono hb1.size))
  clear hb1 hgood hLA hk hbx
  go_wp2_with fail
  refine C2.out.mono ?_
  rintro e w3 ⟨hb3, -, hgood⟩
  obtain ⟨A4, k4, rfl, hF⟩ := hgood (by trivial)
  obtain ⟨b, off, rfl, hlt, x0, -, hc0⟩ := hF 0 _ rfl
  obtain ⟨b1, off1, hA1, -, x1, -, hc1⟩ := hF 1 _ rfl
  obtain ⟨b2, off2, hA2, -, x2, -, hc2⟩ := hF 2 _ rfl
  obtain ⟨b3, off3, hA3, -, x3, -, hc3⟩ := hF 3 _ rfl
  injection hA1 with hA1
  injection hA1 with e1 e2
  injection hA2 with hA2
  injection hA2 with e3 e4
  injection hA3 with hA3
  injection hA3 with e5 e6
  subst e1 e2 e3 e4 e5 e6
  have d0 : w3.cell? ⟨b, off + 3, none⟩ = some (.int .i64 1) := by simpa using hc0 3 _ rfl
  have d1 : w3.cell? ⟨b, off + 9 + 4, none⟩ = some (.int .i64 1) := by simpa using hc1 4 _ rfl
  have d2 : w3.cell? ⟨b, off + 18, none⟩ = some (.int .i64 6) := by simpa using hc2 0 _ rfl
  have d3 : w3.cell? ⟨b, off + 27, none⟩ = some (.int .i64 4) := by simpa using hc3 0 _ rfl
  have HB2 := Lib.hid (HB.out.trans (hb3.mono HB.out.size))
  clear hb3 hgood hF hc0 hc1 hc2 hc3 hlt
  simp only [List.length_cons, List.length_nil]
  go_wp2
  go_ret
  exact ⟨rfl, HB2.out⟩
end Go.Proofs.YtjclhjijpailoaaGreatDoor
