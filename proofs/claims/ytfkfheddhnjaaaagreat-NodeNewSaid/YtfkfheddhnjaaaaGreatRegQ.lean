/- A REGION THAT DRAWS ITS ORDER, BY A PLAN: operations that only read are taken as soon as they are ready, wherever they stand; the others come when they alone are ready. What stands from n on waits for all and comes in one order. -/
import Derived.Test.YtfkfheddhnjaaaaGreatRegR
namespace Go.Proofs.YtfkfheddhnjaaaaGreat
open Go Go.RowKit Law
set_option linter.unusedVariables false
set_option linter.unusedSimpArgs false

def planB (md : Region.Mode) (ops : Array Oper) (n g : Nat) : List (Bool × Nat) → Array Bool → Bool
  | [], listed => Region.seqB md ops g n listed
  | (true, i) :: r, listed => decide (i < n) && ((Region.ready md ops listed).contains i && (Region.free md ops listed i && planB md ops n g r (listed.setIfInBounds i true)))
  | (false, i) :: r, listed => decide (Region.ready md ops listed = [i]) && (decide (i < n) && planB md ops n g r (listed.setIfInBounds i true))
def pickB (l : List Oper) : List (Bool × Nat) → List (Bool × Oper)
  | [] => []
  | (b, i) :: r => ((l.drop i).head?.toList.map fun o => (b, o)) ++ pickB l r
def wpPlan (P : Program) (ops : Array Oper) (Q : Exit → Act → World → Prop) (S : World → Prop) (K : Act → World → Prop) : List (Bool × Oper) → Act → World → Prop
  | [], a, w => K a w
  | (true, o) :: r, a, w => ∃ v, YieldsIf P ops S o v a ∧ wpPlan P ops Q S K r (a.put o.dst v) w
  | (false, o) :: r, a, w => (Region.wanted o (yielded ops a.tmps) = true ∧ o.wp P a w (fun a' w' => S w' ∧ wpPlan P ops Q S K r a' w') Q) ∨ (Region.wanted o (yielded ops a.tmps) = false ∧ wpPlan P ops Q S K r (a.put o.dst undef) w)
section
variable {P : Program} {l : List Oper} {Q : Exit → Act → World → Prop} {md : Region.Mode} {S : World → Prop} {ops : Array Oper}
theorem wpPlan_nil {K : Act → World → Prop} {a : Act} {w : World} (h : K a w) : wpPlan P ops Q S K [] a w := h
theorem wpPlan_rd {K : Act → World → Prop} {a : Act} {w : World} {o : Oper} {r : List (Bool × Oper)} (v : Value) (hw : Region.wanted o (yielded ops a.tmps) = true) (hv : ∀ w, S w → (execOp a.eval o).run P w = .ok (.value v) w)
    (h : wpPlan P ops Q S K r (a.put o.dst v) w) : wpPlan P ops Q S K ((true, o) :: r) a w := ⟨v, .inl ⟨hw, hv⟩, h⟩
theorem wpPlan_skip {K : Act → World → Prop} {a : Act} {w : World} {o : Oper} {r : List (Bool × Oper)} (hw : Region.wanted o (yielded ops a.tmps) = false)
    (h : wpPlan P ops Q S K r (a.put o.dst undef) w) : wpPlan P ops Q S K ((true, o) :: r) a w := ⟨undef, .inr ⟨hw, rfl⟩, h⟩
theorem wpPlan_do {K : Act → World → Prop} {a : Act} {w : World} {o : Oper} {r : List (Bool × Oper)} (hw : Region.wanted o (yielded ops a.tmps) = true)
    (h : o.wp P a w (fun a' w' => S w' ∧ wpPlan P ops Q S K r a' w') Q) : wpPlan P ops Q S K ((false, o) :: r) a w := .inl ⟨hw, h⟩
theorem wpPlan_pass {K : Act → World → Prop} {a : Act} {w : World} {o : Oper} {r : List (Bool × Oper)} (hw : Region.wanted o (yielded ops a.tmps) = false)
    (h : wpPlan P ops Q S K r (a.put o.dst undef) w) : wpPlan P ops Q S K ((false, o) :: r) a w := .inr ⟨hw, h⟩
theorem pickB_at {b : Bool} {i : Nat} {r : List (Bool × Nat)} {o : Oper} (h : l[i]? = some o) : pickB l ((b, i) :: r) = (b, o) :: pickB l r := by
  have : (l.drop i).head? = some o := by rw [List.head?_drop]; exact h
  simp [pickB, this]
theorem wpAnyT_plan {n g d : Nat} {pre : List Nat} {K : Act → World → Prop} (hsel : Region.noSelect l.toArray = true) (ht : transB md l.toArray d n pre = true)
    (hQ : ∀ c a d v w, Q (.panic c) (a.put d v) w → Q (.panic c) a w) :
    ∀ (pl : List (Bool × Nat)) (listed : Array Bool) (a : Act) (w : World), (∀ x ∈ pl, x.2 < l.length) → HeadInv md l.toArray n listed → PreIn pre listed →
    planB md l.toArray n g pl listed = true → S w → wpPlan P l.toArray Q S K (pickB l pl) a w →
    wpAnyT P md l.toArray Q S n (fun listed' a' w' => Region.seqB md l.toArray g n listed' = true ∧ K a' w') pl.length listed a w
  | [], listed, a, w, _, inv, hp, hB, hS, h => ⟨hB, h⟩
  | (true, i) :: r, listed, a, w, hl, inv, hp, hB, hS, h => by
    have hi : i < l.length := hl (true, i) (by simp)
    obtain ⟨o, ho⟩ : ∃ o, l[i]? = some o := ⟨_, List.getElem?_eq_getElem hi⟩
    rw [pickB_at ho] at h
    have ho' : l.toArray[i]? = some o := by simpa using ho
    simp only [planB, Bool.and_eq_true, decide_eq_true_eq] at hB
    obtain ⟨hin, hr, hf, hB'⟩ := hB
    have hr' : i ∈ Region.ready md l.toArray listed := by simpa using hr
    obtain ⟨v, hy, hK⟩ := h
    rw [List.length_cons]
    exact wpAnyT_first2 ho' (Region.noSelect_spec hsel) (fun c a w => hQ c a _ _ w) ht hin (fun listed' a' w' hL => seqB_ready hL.1) r.length listed a w inv hp (Region.free_spec ho' hf) hr' hy hS
      (wpAnyT_plan hsel ht hQ r _ _ w (fun k hk => hl k (by simp [hk])) (inv.set hr' hin) (hp.set i) hB' hS hK)
  | (false, i) :: r, listed, a, w, hl, inv, hp, hB, hS, h => by
    have hi : i < l.length := hl (false, i) (by simp)
    obtain ⟨o, ho⟩ : ∃ o, l[i]? = some o := ⟨_, List.getElem?_eq_getElem hi⟩
    rw [pickB_at ho] at h
    have ho' : l.toArray[i]? = some o := by simpa using ho
    simp only [planB, Bool.and_eq_true, decide_eq_true_eq] at hB
    obtain ⟨hr, hin, hB'⟩ := hB
    have hr' : i ∈ Region.ready md l.toArray listed := by rw [hr]; simp
    rw [List.length_cons]
    refine ⟨fun h1 => (by rw [hr] at h1; cases h1), fun j hj => ?_⟩
    rw [hr] at hj
    obtain rfl : j = i := by simpa using hj
    refine ⟨hin, ?_⟩
    unfold wpOp
    simp only [ho']
    rcases h with ⟨hw, h⟩ | ⟨hw, h⟩
    · rw [if_pos hw]
      refine .inl (Oper.wp_mono (fun a' w' h' => ⟨h'.1, ?_⟩) h)
      exact wpAnyT_plan hsel ht hQ r _ a' w' (fun k hk => hl k (by simp [hk])) (inv.set hr' hin) (hp.set j) hB' h'.1 h'.2
    · rw [if_neg (by rw [hw]; simp)]
      exact ⟨hS, wpAnyT_plan hsel ht hQ r _ _ w (fun k hk => hl k (by simp [hk])) (inv.set hr' hin) (hp.set j) hB' hS h⟩
end
def regPlanB (ops : Array Oper) (pre : List Nat) (pl : List (Bool × Nat)) (n d : Nat) : Bool :=
  Region.noSelect ops && (decide (pre.length + pl.length = n) && (decide (n ≤ ops.size) && (transB .any ops d n pre && (pre.all (fun i => decide (i < ops.size)) && (pl.all (fun x => decide (x.2 < ops.size)) && (prePB .any ops pre (Array.replicate ops.size false) && (invB .any ops n (preL (Array.replicate ops.size false) pre) && (pre.all (fun k => (preL (Array.replicate ops.size false) pre).getD k true) && planB .any ops n (ops.size - n) pl (preL (Array.replicate ops.size false) pre)))))))))
/-- pre: operations that read nothing, taken ahead of all; pl: the plan; n: how many these are; what stands from n on waits for all of them. d: how long a chain of waiting is. -/
theorem wp_region_plan {P : Program} {id : Nat} {Q : Exit → Act → World → Prop} {a : Act} {w : World} {l : List Oper} (pre : List Nat) (pl : List (Bool × Nat)) (n d : Nat) (S : World → Prop) (hm : P.follows .mixedOrders = true) (hB : regPlanB l.toArray pre pl n d = true)
    (hQ : ∀ c a t v w, Q (.panic c) (a.put (some t) v) w → Q (.panic c) a w) (hS : S w.drew)
    (h : wpHead P l.toArray (fun _ => True) (fun a0 => wpPlan P l.toArray Q S (wpList P l.toArray Q (l.drop n)) (pickB l pl) a0 w.drew) (pickL l pre) a) : (Code.region id l.toArray true).wp P Q a w := by
  simp only [regPlanB, Bool.and_eq_true, decide_eq_true_eq, List.all_eq_true] at hB
  obtain ⟨hsel, hlen, hn, ht, hlt, hlp, hpr, hinv, hpin, hh⟩ := hB
  have hn' : n ≤ l.length := by simpa using hn
  have hdl : (l.drop n).length = l.toArray.size - n := by simp
  have hQ' : ∀ c a d v w, Q (.panic c) (a.put d v) w → Q (.panic c) a w := fun c a d v w h => by cases d with | none => exact h | some t => exact hQ c a t v w h
  refine wp_region_any hm ?_
  have H := wpAny_pre (P := P) (l := l) (Q := Q) (md := .any) (f := pl.length + (l.toArray.size - n)) (w := w.drew) hsel hQ' pre (Array.replicate l.toArray.size false) a (fun i hi => by simpa using hlt i hi) hpr ?_
  · rw [show pre.length + (pl.length + (l.toArray.size - n)) = l.toArray.size by omega] at H
    exact H
  · refine wpHead_mono (fun a0 h0 => ?_) h
    have H := wpAnyT_plan (md := .any) (g := l.toArray.size - n) hsel ht hQ' pl _ a0 w.drew (fun x hx => by simpa using hlp x hx) (inv_of hinv) (fun k hk => hpin k hk) hh hS h0
    exact wpAny_of_T (Q := Q) (g := l.toArray.size - n) (fun listed' a' w' hL => by
      have := wpAny_of_seq (md := .any) (Q' := Q) (l.drop n) n listed' a' w' (fun j => by simp [List.getElem?_drop]) (by rw [hdl]; exact hL.1) hL.2
      rwa [hdl] at this) _ _ _ _ H
end Go.Proofs.YtfkfheddhnjaaaaGreat
