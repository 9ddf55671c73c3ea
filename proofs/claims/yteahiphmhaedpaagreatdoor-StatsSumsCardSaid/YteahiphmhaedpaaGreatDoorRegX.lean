/- A REGION THAT DRAWS ITS ORDER, BY A PLAN WITH A CHOICE: as RegQ's plan, but where two operations that turn memory are ready at once, any may come first, and each has a plan of its own behind it; of three too. -/
import Derived.Test.YteahiphmhaedpaaGreatDoorBase
namespace Go.Proofs.YteahiphmhaedpaaGreatDoor
open Go Go.RowKit Law
set_option linter.unusedVariables false
set_option linter.unusedSimpArgs false

inductive Pl3 (α : Type) where
  | nil : Pl3 α
  | rd : α → Pl3 α → Pl3 α
  | one : α → Pl3 α → Pl3 α
  | two : α → α → Pl3 α → Pl3 α → Pl3 α
  | three : α → α → α → Pl3 α → Pl3 α → Pl3 α → Pl3 α
def Pl3.deep {α : Type} : Pl3 α → Nat
  | .nil => 0
  | .rd _ r => r.deep + 1
  | .one _ r => r.deep + 1
  | .two _ _ r _ => r.deep + 1
  | .three _ _ _ r _ _ => r.deep + 1
def Pl3.allB {α : Type} (p : α → Bool) : Pl3 α → Bool
  | .nil => true
  | .rd i r => p i && r.allB p
  | .one i r => p i && r.allB p
  | .two i j r s => p i && (p j && (r.allB p && s.allB p))
  | .three i j k r s t => p i && (p j && (p k && (r.allB p && (s.allB p && t.allB p))))
def plan3B (md : Region.Mode) (ops : Array Oper) (n g : Nat) : Pl3 Nat → Array Bool → Bool
  | .nil, listed => Region.seqB md ops g n listed
  | .rd i r, listed => decide (i < n) && ((Region.ready md ops listed).contains i && (Region.free md ops listed i && plan3B md ops n g r (listed.setIfInBounds i true)))
  | .one i r, listed => decide (Region.ready md ops listed = [i]) && (decide (i < n) && plan3B md ops n g r (listed.setIfInBounds i true))
  | .two i j r s, listed => decide (Region.ready md ops listed = [i, j]) && (decide (i < n) && (decide (j < n) && (decide (r.deep = s.deep) && (plan3B md ops n g r (listed.setIfInBounds i true) && plan3B md ops n g s (listed.setIfInBounds j true)))))
  | .three i j k r s t, listed => decide (Region.ready md ops listed = [i, j, k]) && (decide (i < n) && (decide (j < n) && (decide (k < n) && (decide (r.deep = s.deep) && (decide (r.deep = t.deep) && (plan3B md ops n g r (listed.setIfInBounds i true) && (plan3B md ops n g s (listed.setIfInBounds j true) && plan3B md ops n g t (listed.setIfInBounds k true))))))))
/-- What is to be shown of a plan, step by step; l: the operations. -/
def wpPlan3 (P : Program) (ops : Array Oper) (Q : Exit → Act → World → Prop) (S : World → Prop) (K : Act → World → Prop) (l : List Oper) : Pl3 Nat → Act → World → Prop
  | .nil, a, w => K a w
  | .rd i r, a, w => ∀ o, l[i]? = some o → ∃ v, YieldsIf P ops S o v a ∧ wpPlan3 P ops Q S K l r (a.put o.dst v) w
  | .one i r, a, w => ∀ o, l[i]? = some o → (Region.wanted o (yielded ops a.tmps) = true ∧ o.wp P a w (fun a' w' => S w' ∧ wpPlan3 P ops Q S K l r a' w') Q) ∨ (Region.wanted o (yielded ops a.tmps) = false ∧ wpPlan3 P ops Q S K l r (a.put o.dst undef) w)
  | .two i j r s, a, w => (∀ o, l[i]? = some o → (Region.wanted o (yielded ops a.tmps) = true ∧ o.wp P a w (fun a' w' => S w' ∧ wpPlan3 P ops Q S K l r a' w') Q)) ∧ (∀ o, l[j]? = some o → (Region.wanted o (yielded ops a.tmps) = true ∧ o.wp P a w (fun a' w' => S w' ∧ wpPlan3 P ops Q S K l s a' w') Q))
  | .three i j k r s t, a, w => (∀ o, l[i]? = some o → (Region.wanted o (yielded ops a.tmps) = true ∧ o.wp P a w (fun a' w' => S w' ∧ wpPlan3 P ops Q S K l r a' w') Q)) ∧ (∀ o, l[j]? = some o → (Region.wanted o (yielded ops a.tmps) = true ∧ o.wp P a w (fun a' w' => S w' ∧ wpPlan3 P ops Q S K l s a' w') Q)) ∧ (∀ o, l[k]? = some o → (Region.wanted o (yielded ops a.tmps) = true ∧ o.wp P a w (fun a' w' => S w' ∧ wpPlan3 P ops Q S K l t a' w') Q))
section
variable {P : Program} {l : List Oper} {Q : Exit → Act → World → Prop} {md : Region.Mode} {S : World → Prop} {ops : Array Oper}
theorem wpPlan3_nil {K : Act → World → Prop} {a : Act} {w : World} (h : K a w) : wpPlan3 P ops Q S K l .nil a w := h
theorem wpPlan3_rd {K : Act → World → Prop} {a : Act} {w : World} {i : Nat} {o : Oper} {r : Pl3 Nat} (v : Value) (ho : l[i]? = some o) (hw : Region.wanted o (yielded ops a.tmps) = true) (hv : ∀ w, S w → (execOp a.eval o).run P w = .ok (.value v) w)
    (h : wpPlan3 P ops Q S K l r (a.put o.dst v) w) : wpPlan3 P ops Q S K l (.rd i r) a w := fun o' ho' => by
  rw [ho] at ho'
  obtain rfl := Option.some.inj ho'
  exact ⟨v, .inl ⟨hw, hv⟩, h⟩
theorem wpPlan3_do {K : Act → World → Prop} {a : Act} {w : World} {i : Nat} {o : Oper} {r : Pl3 Nat} (ho : l[i]? = some o) (hw : Region.wanted o (yielded ops a.tmps) = true)
    (h : o.wp P a w (fun a' w' => S w' ∧ wpPlan3 P ops Q S K l r a' w') Q) : wpPlan3 P ops Q S K l (.one i r) a w := fun o' ho' => by
  rw [ho] at ho'
  obtain rfl := Option.some.inj ho'
  exact .inl ⟨hw, h⟩
theorem wpPlan3_two {K : Act → World → Prop} {a : Act} {w : World} {i j : Nat} {o u : Oper} {r s : Pl3 Nat} (ho : l[i]? = some o) (hu : l[j]? = some u) (hw : Region.wanted o (yielded ops a.tmps) = true) (hx : Region.wanted u (yielded ops a.tmps) = true)
    (h : o.wp P a w (fun a' w' => S w' ∧ wpPlan3 P ops Q S K l r a' w') Q) (k : u.wp P a w (fun a' w' => S w' ∧ wpPlan3 P ops Q S K l s a' w') Q) : wpPlan3 P ops Q S K l (.two i j r s) a w := by
  refine ⟨fun o' ho' => ?_, fun o' ho' => ?_⟩
  · rw [ho] at ho'
    obtain rfl := Option.some.inj ho'
    exact ⟨hw, h⟩
  · rw [hu] at ho'
    obtain rfl := Option.some.inj ho'
    exact ⟨hx, k⟩
theorem wpPlan3_three {K : Act → World → Prop} {a : Act} {w : World} {i j k : Nat} {o u v : Oper} {r s t : Pl3 Nat} (ho : l[i]? = some o) (hu : l[j]? = some u) (hv : l[k]? = some v) (hw : Region.wanted o (yielded ops a.tmps) = true) (hx : Region.wanted u (yielded ops a.tmps) = true) (hy : Region.wanted v (yielded ops a.tmps) = true)
    (h : o.wp P a w (fun a' w' => S w' ∧ wpPlan3 P ops Q S K l r a' w') Q) (h2 : u.wp P a w (fun a' w' => S w' ∧ wpPlan3 P ops Q S K l s a' w') Q) (h3 : v.wp P a w (fun a' w' => S w' ∧ wpPlan3 P ops Q S K l t a' w') Q) : wpPlan3 P ops Q S K l (.three i j k r s t) a w := by
  refine ⟨fun o' ho' => ?_, fun o' ho' => ?_, fun o' ho' => ?_⟩
  · rw [ho] at ho'
    obtain rfl := Option.some.inj ho'
    exact ⟨hw, h⟩
  · rw [hu] at ho'
    obtain rfl := Option.some.inj ho'
    exact ⟨hx, h2⟩
  · rw [hv] at ho'
    obtain rfl := Option.some.inj ho'
    exact ⟨hy, h3⟩
theorem wpAnyT_plan3 {n g d : Nat} {pre : List Nat} {K : Act → World → Prop} (hsel : Region.noSelect l.toArray = true) (ht : transB md l.toArray d n pre = true)
    (hQ : ∀ c a d v w, Q (.panic c) (a.put d v) w → Q (.panic c) a w) :
    ∀ (pl : Pl3 Nat) (listed : Array Bool) (a : Act) (w : World), pl.allB (fun i => decide (i < l.length)) = true → HeadInv md l.toArray n listed → PreIn pre listed →
    plan3B md l.toArray n g pl listed = true → S w → wpPlan3 P l.toArray Q S K l pl a w →
    wpAnyT P md l.toArray Q S n (fun listed' a' w' => Region.seqB md l.toArray g n listed' = true ∧ K a' w') pl.deep listed a w
  | .nil, listed, a, w, _, inv, hp, hB, hS, h => ⟨hB, h⟩
  | .rd i r, listed, a, w, hl, inv, hp, hB, hS, h => by
    simp only [Pl3.allB, Bool.and_eq_true, decide_eq_true_eq] at hl
    have hi : i < l.length := hl.1
    obtain ⟨o, ho⟩ : ∃ o, l[i]? = some o := ⟨_, List.getElem?_eq_getElem hi⟩
    have ho' : l.toArray[i]? = some o := by simpa using ho
    simp only [plan3B, Bool.and_eq_true, decide_eq_true_eq] at hB
    obtain ⟨hin, hr, hf, hB'⟩ := hB
    have hr' : i ∈ Region.ready md l.toArray listed := by simpa using hr
    obtain ⟨v, hy, hK⟩ := h o ho
    show wpAnyT P md l.toArray Q S n _ (r.deep + 1) listed a w
    exact wpAnyT_first2 ho' (Region.noSelect_spec hsel) (fun c a w => hQ c a _ _ w) ht hin (fun listed' a' w' hL => seqB_ready hL.1) r.deep listed a w inv hp (Region.free_spec ho' hf) hr' hy hS
      (wpAnyT_plan3 hsel ht hQ r _ _ w hl.2 (inv.set hr' hin) (hp.set i) hB' hS hK)
  | .one i r, listed, a, w, hl, inv, hp, hB, hS, h => by
    simp only [Pl3.allB, Bool.and_eq_true, decide_eq_true_eq] at hl
    have hi : i < l.length := hl.1
    obtain ⟨o, ho⟩ : ∃ o, l[i]? = some o := ⟨_, List.getElem?_eq_getElem hi⟩
    have ho' : l.toArray[i]? = some o := by simpa using ho
    simp only [plan3B, Bool.and_eq_true, decide_eq_true_eq] at hB
    obtain ⟨hr, hin, hB'⟩ := hB
    have hr' : i ∈ Region.ready md l.toArray listed := by rw [hr]; simp
    show wpAnyT P md l.toArray Q S n _ (r.deep + 1) listed a w
    refine ⟨fun h1 => (by rw [hr] at h1; cases h1), fun j hj => ?_⟩
    rw [hr] at hj
    obtain rfl : j = i := by simpa using hj
    refine ⟨hin, ?_⟩
    unfold wpOp
    simp only [ho']
    rcases h o ho with ⟨hw, h⟩ | ⟨hw, h⟩
    · rw [if_pos hw]
      refine .inl (Oper.wp_mono (fun a' w' h' => ⟨h'.1, ?_⟩) h)
      exact wpAnyT_plan3 hsel ht hQ r _ a' w' hl.2 (inv.set hr' hin) (hp.set j) hB' h'.1 h'.2
    · rw [if_neg (by rw [hw]; simp)]
      exact ⟨hS, wpAnyT_plan3 hsel ht hQ r _ _ w hl.2 (inv.set hr' hin) (hp.set j) hB' hS h⟩
  | .two i k r s, listed, a, w, hl, inv, hp, hB, hS, h => by
    simp only [Pl3.allB, Bool.and_eq_true, decide_eq_true_eq] at hl
    simp only [plan3B, Bool.and_eq_true, decide_eq_true_eq] at hB
    obtain ⟨hr, hin, hkn, hdd, hB1, hB2⟩ := hB
    have hri : i ∈ Region.ready md l.toArray listed := by rw [hr]; simp
    have hrk : k ∈ Region.ready md l.toArray listed := by rw [hr]; simp
    show wpAnyT P md l.toArray Q S n _ (r.deep + 1) listed a w
    refine ⟨fun h1 => (by rw [hr] at h1; cases h1), fun j hj => ?_⟩
    rw [hr] at hj
    obtain ⟨h1, h2⟩ := h
    have hj' : j = i ∨ j = k := by simpa using hj
    rcases hj' with rfl | rfl
    · obtain ⟨o, ho⟩ : ∃ o, l[j]? = some o := ⟨_, List.getElem?_eq_getElem hl.1⟩
      have ho' : l.toArray[j]? = some o := by simpa using ho
      refine ⟨hin, ?_⟩
      unfold wpOp
      simp only [ho']
      obtain ⟨hw, h⟩ := h1 o ho
      rw [if_pos hw]
      refine .inl (Oper.wp_mono (fun a' w' h' => ⟨h'.1, ?_⟩) h)
      exact wpAnyT_plan3 hsel ht hQ r _ a' w' hl.2.2.1 (inv.set hri hin) (hp.set j) hB1 h'.1 h'.2
    · obtain ⟨o, ho⟩ : ∃ o, l[j]? = some o := ⟨_, List.getElem?_eq_getElem hl.2.1⟩
      have ho' : l.toArray[j]? = some o := by simpa using ho
      refine ⟨hkn, ?_⟩
      unfold wpOp
      simp only [ho']
      obtain ⟨hw, h⟩ := h2 o ho
      rw [if_pos hw]
      refine .inl (Oper.wp_mono (fun a' w' h' => ⟨h'.1, ?_⟩) h)
      rw [hdd]
      exact wpAnyT_plan3 hsel ht hQ s _ a' w' hl.2.2.2 (inv.set hrk hkn) (hp.set j) hB2 h'.1 h'.2
  | .three i k m r s t, listed, a, w, hl, inv, hp, hB, hS, h => by
    simp only [Pl3.allB, Bool.and_eq_true, decide_eq_true_eq] at hl
    simp only [plan3B, Bool.and_eq_true, decide_eq_true_eq] at hB
    obtain ⟨hr, hin, hkn, hmn, hdd, hde, hB1, hB2, hB3⟩ := hB
    have hri : i ∈ Region.ready md l.toArray listed := by rw [hr]; simp
    have hrk : k ∈ Region.ready md l.toArray listed := by rw [hr]; simp
    have hrm : m ∈ Region.ready md l.toArray listed := by rw [hr]; simp
    show wpAnyT P md l.toArray Q S n _ (r.deep + 1) listed a w
    refine ⟨fun h1 => (by rw [hr] at h1; cases h1), fun j hj => ?_⟩
    rw [hr] at hj
    obtain ⟨h1, h2, h3⟩ := h
    have hj' : j = i ∨ j = k ∨ j = m := by simpa using hj
    rcases hj' with rfl | rfl | rfl
    · obtain ⟨o, ho⟩ : ∃ o, l[j]? = some o := ⟨_, List.getElem?_eq_getElem hl.1⟩
      have ho' : l.toArray[j]? = some o := by simpa using ho
      refine ⟨hin, ?_⟩
      unfold wpOp
      simp only [ho']
      obtain ⟨hw, h⟩ := h1 o ho
      rw [if_pos hw]
      refine .inl (Oper.wp_mono (fun a' w' h' => ⟨h'.1, ?_⟩) h)
      exact wpAnyT_plan3 hsel ht hQ r _ a' w' hl.2.2.2.1 (inv.set hri hin) (hp.set j) hB1 h'.1 h'.2
    · obtain ⟨o, ho⟩ : ∃ o, l[j]? = some o := ⟨_, List.getElem?_eq_getElem hl.2.1⟩
      have ho' : l.toArray[j]? = some o := by simpa using ho
      refine ⟨hkn, ?_⟩
      unfold wpOp
      simp only [ho']
      obtain ⟨hw, h⟩ := h2 o ho
      rw [if_pos hw]
      refine .inl (Oper.wp_mono (fun a' w' h' => ⟨h'.1, ?_⟩) h)
      rw [hdd]
      exact wpAnyT_plan3 hsel ht hQ s _ a' w' hl.2.2.2.2.1 (inv.set hrk hkn) (hp.set j) hB2 h'.1 h'.2
    · obtain ⟨o, ho⟩ : ∃ o, l[j]? = some o := ⟨_, List.getElem?_eq_getElem hl.2.2.1⟩
      have ho' : l.toArray[j]? = some o := by simpa using ho
      refine ⟨hmn, ?_⟩
      unfold wpOp
      simp only [ho']
      obtain ⟨hw, h⟩ := h3 o ho
      rw [if_pos hw]
      refine .inl (Oper.wp_mono (fun a' w' h' => ⟨h'.1, ?_⟩) h)
      rw [hde]
      exact wpAnyT_plan3 hsel ht hQ t _ a' w' hl.2.2.2.2.2 (inv.set hrm hmn) (hp.set j) hB3 h'.1 h'.2
end
def regPlan3B (ops : Array Oper) (pre : List Nat) (pl : Pl3 Nat) (n d : Nat) : Bool :=
  Region.noSelect ops && (decide (pre.length + pl.deep = n) && (decide (n ≤ ops.size) && (transB .any ops d n pre && (pre.all (fun i => decide (i < ops.size)) && (pl.allB (fun i => decide (i < ops.size)) && (prePB .any ops pre (Array.replicate ops.size false) && (invB .any ops n (preL (Array.replicate ops.size false) pre) && (pre.all (fun k => (preL (Array.replicate ops.size false) pre).getD k true) && plan3B .any ops n (ops.size - n) pl (preL (Array.replicate ops.size false) pre)))))))))
theorem wp_region_plan3 {P : Program} {id : Nat} {Q : Exit → Act → World → Prop} {a : Act} {w : World} {l : List Oper} (pre : List Nat) (pl : Pl3 Nat) (n d : Nat) (S : World → Prop) (hm : P.follows .mixedOrders = true) (hB : regPlan3B l.toArray pre pl n d = true)
    (hQ : ∀ c a t v w, Q (.panic c) (a.put (some t) v) w → Q (.panic c) a w) (hS : S w.drew)
    (h : wpHead P l.toArray (fun _ => True) (fun a0 => wpPlan3 P l.toArray Q S (wpList P l.toArray Q (l.drop n)) l pl a0 w.drew) (pickL l pre) a) : (Code.region id l.toArray true).wp P Q a w := by
  simp only [regPlan3B, Bool.and_eq_true, decide_eq_true_eq, List.all_eq_true] at hB
  obtain ⟨hsel, hlen, hn, ht, hlt, hlp, hpr, hinv, hpin, hh⟩ := hB
  have hn' : n ≤ l.length := by simpa using hn
  have hdl : (l.drop n).length = l.toArray.size - n := by simp
  have hQ' : ∀ c a d v w, Q (.panic c) (a.put d v) w → Q (.panic c) a w := fun c a d v w h => by cases d with | none => exact h | some t => exact hQ c a t v w h
  refine wp_region_any hm ?_
  have H := wpAny_pre (P := P) (l := l) (Q := Q) (md := .any) (f := pl.deep + (l.toArray.size - n)) (w := w.drew) hsel hQ' pre (Array.replicate l.toArray.size false) a (fun i hi => by simpa using hlt i hi) hpr ?_
  · rw [show pre.length + (pl.deep + (l.toArray.size - n)) = l.toArray.size by omega] at H
    exact H
  · refine wpHead_mono (fun a0 h0 => ?_) h
    have H := wpAnyT_plan3 (md := .any) (g := l.toArray.size - n) hsel ht hQ' pl _ a0 w.drew (by simpa using hlp) (inv_of hinv) (fun k hk => hpin k hk) hh hS h0
    exact wpAny_of_T (Q := Q) (g := l.toArray.size - n) (fun listed' a' w' hL => by
      have := wpAny_of_seq (md := .any) (Q' := Q) (l.drop n) n listed' a' w' (fun j => by simp [List.getElem?_drop]) (by rw [hdl]; exact hL.1) hL.2
      rwa [hdl] at this) _ _ _ _ H
/- A PLAN FOR A LARGE REGION: what the operations wait for and look at is laid down once as rows of numbers (bits); the plan is checked on these alone (regPlanF_ok). -/
def maskL : List Nat → Nat
  | [] => 0
  | k :: l => (2 ^ k) ||| maskL l
theorem mask_spec (k : Nat) : ∀ l : List Nat, (maskL l).testBit k = l.contains k
  | [] => by simp [maskL]
  | a :: l => by
    rw [maskL, Nat.testBit_or, mask_spec k l, Nat.testBit_two_pow, List.contains_cons]
    congr 1
    rw [Bool.eq_iff_iff]; simp only [decide_eq_true_eq, beq_iff_eq]; exact eq_comm
def arrOf (n L : Nat) : Array Bool := Array.ofFn (n := n) fun i => L.testBit i.val
theorem arrOf_size (n L : Nat) : (arrOf n L).size = n := by simp [arrOf]
theorem arrOf_getD (n L j : Nat) (d : Bool) : (arrOf n L).getD j d = if j < n then L.testBit j else d := by
  by_cases h : j < n
  · simp [arrOf, Array.getD, h]
  · simp [arrOf, Array.getD, h]
theorem arrOf_set (n L i : Nat) : (arrOf n L).setIfInBounds i true = arrOf n (L ||| 2 ^ i) := by
  apply Array.ext
  · simp [arrOf]
  · intro j h1 h2
    have hj : j < n := by simpa [arrOf] using h2
    by_cases hij : i = j
    · subst hij; simp [arrOf, Nat.testBit_or]
    · rw [Array.getElem_setIfInBounds_ne (by simpa [arrOf] using hj) hij]
      simp [arrOf, hij, Nat.testBit_or, Nat.testBit_two_pow]
theorem arrOf_zero (n : Nat) : Array.replicate n false = arrOf n 0 := by
  apply Array.ext
  · simp [arrOf]
  · intro j h1 h2; simp [arrOf]
def rowOf (ops : Array Oper) (o : Oper) : Nat × Option Nat × Nat := (maskL ((o.after.toList.filter (Region.binds .any)).map (·.on)), o.dst, maskL (o.looksAt ops))
def canF (r : Nat × Option Nat × Nat) (L : Nat) : Bool := r.1 &&& L == r.1
def bitO (d : Option Nat) (m : Nat) : Bool := match d with | some k => m.testBit k | none => false
def sameO (a b : Option Nat) : Bool := match a with | some k => (match b with | some j => k == j | none => false) | none => false
def partF (x y : Nat × Option Nat × Nat) : Bool := !bitO x.2.1 y.2.2 && (!sameO y.2.1 x.2.1 && !bitO y.2.1 x.2.2)
def freeF (x : Nat × Option Nat × Nat) (i L : Nat) : List (Nat × Option Nat × Nat) → Nat → Bool
  | [], _ => true
  | y :: r, j => (L.testBit j || (y.1.testBit i || (partF x y || j == i))) && freeF x i L r (j + 1)
def onlyF (i L : Nat) : List (Nat × Option Nat × Nat) → Nat → Bool
  | [], _ => true
  | y :: r, j => (L.testBit j || (!canF y L || j == i)) && onlyF i L r (j + 1)
def planF (rows : List (Nat × Option Nat × Nat)) (n : Nat) : List (Bool × Nat) → Nat → Option Nat
  | [], L => some L
  | (b, i) :: r, L => match rows[i]? with
    | none => none
    | some x => if decide (i < n) && (!L.testBit i && (canF x L && (if b then freeF x i L rows 0 else onlyF i L rows 0))) then planF rows n r (L ||| 2 ^ i) else none
theorem freeF_spec {x : Nat × Option Nat × Nat} {i L : Nat} : ∀ (rows : List (Nat × Option Nat × Nat)) (j : Nat), freeF x i L rows j = true → ∀ k y, rows[k]? = some y → (L.testBit (j + k) || (y.1.testBit i || (partF x y || (j + k == i)))) = true
  | [], _, _, k, y, hk => by simp at hk
  | z :: r, j, h, 0, y, hk => by
    simp only [freeF, Bool.and_eq_true] at h
    obtain rfl : z = y := by simpa using hk
    exact h.1
  | z :: r, j, h, k + 1, y, hk => by
    simp only [freeF, Bool.and_eq_true] at h
    have H := freeF_spec r (j + 1) h.2 k y (by simpa using hk)
    rwa [show j + (k + 1) = j + 1 + k by omega]
theorem onlyF_spec {i L : Nat} : ∀ (rows : List (Nat × Option Nat × Nat)) (j : Nat), onlyF i L rows j = true → ∀ k y, rows[k]? = some y → (L.testBit (j + k) || (!canF y L || (j + k == i))) = true
  | [], _, _, k, y, hk => by simp at hk
  | z :: r, j, h, 0, y, hk => by
    simp only [onlyF, Bool.and_eq_true] at h
    obtain rfl : z = y := by simpa using hk
    exact h.1
  | z :: r, j, h, k + 1, y, hk => by
    simp only [onlyF, Bool.and_eq_true] at h
    have H := onlyF_spec r (j + 1) h.2 k y (by simpa using hk)
    rwa [show j + (k + 1) = j + 1 + k by omega]
theorem single_of {l : List Nat} {i : Nat} (hn : l.Nodup) (hi : i ∈ l) (ho : ∀ j ∈ l, j = i) : l = [i] := by
  match l, hn, hi, ho with
  | [a], _, _, ho => rw [ho a (by simp)]
  | a :: b :: r, hn, _, ho =>
    have h1 := ho a (by simp)
    have h2 := ho b (by simp)
    simp [h1, h2] at hn
theorem canF_spec {o : Oper} {ops : Array Oper} {n L : Nat} (hlt : ∀ e ∈ o.after.toList, Region.binds .any e = true → e.on < n) : canF (rowOf ops o) L = (o.after.all fun e => !Region.binds .any e || (arrOf n L).getD e.on false) := by
  rw [Bool.eq_iff_iff]
  simp only [canF, rowOf, beq_iff_eq, Array.all_eq_true_iff_forall_mem]
  constructor
  · intro h e he
    by_cases hb : Region.binds .any e = true
    · have hm : (maskL ((o.after.toList.filter (Region.binds .any)).map (·.on))).testBit e.on = true := by
        rw [mask_spec]; simp only [List.contains_eq_mem, decide_eq_true_eq, List.mem_map, List.mem_filter]
        exact ⟨e, ⟨by simpa using he, hb⟩, rfl⟩
      rw [← h, Nat.testBit_and, Bool.and_eq_true] at hm
      rw [arrOf_getD, if_pos (hlt e (by simpa using he) hb), hm.2]; simp
    · simp [hb]
  · intro h
    apply Nat.eq_of_testBit_eq
    intro k
    rw [Nat.testBit_and]
    by_cases hm : (maskL ((o.after.toList.filter (Region.binds .any)).map (·.on))).testBit k = true
    · have hm' := hm
      rw [mask_spec] at hm'
      simp only [List.contains_eq_mem, decide_eq_true_eq, List.mem_map, List.mem_filter] at hm'
      obtain ⟨e, ⟨he, hb⟩, rfl⟩ := hm'
      have := h e (by simpa using he)
      rw [arrOf_getD, if_pos (hlt e he hb), hb] at this
      simp at this
      rw [hm, this]; rfl
    · simp only [Bool.not_eq_true] at hm; rw [hm]; rfl

def lowF : List (Nat × Option Nat × Nat) → Nat → Bool
  | [], _ => true
  | y :: r, j => decide (y.1 < 2 ^ j) && lowF r (j + 1)
theorem lowF_spec : ∀ (rows : List (Nat × Option Nat × Nat)) (j : Nat), lowF rows j = true → ∀ k y, rows[k]? = some y → y.1 < 2 ^ (j + k)
  | [], _, _, k, y, hk => by simp at hk
  | z :: r, j, h, 0, y, hk => by
    simp only [lowF, Bool.and_eq_true, decide_eq_true_eq] at h
    obtain rfl : z = y := by simpa using hk
    exact h.1
  | z :: r, j, h, k + 1, y, hk => by
    simp only [lowF, Bool.and_eq_true] at h
    have H := lowF_spec r (j + 1) h.2 k y (by simpa using hk)
    rwa [show j + (k + 1) = j + 1 + k by omega]
def cloF (rows : List (Nat × Option Nat × Nat)) : Nat → Nat → Nat
  | 0, M => M
  | k + 1, M => cloF rows k (if M.testBit k then M ||| (rows.getD k (0, none, 0)).1 else M)
/-- A chain of waiting. -/
inductive ChainR (ops : Array Oper) : Nat → Nat → Prop
  | one {t i : Nat} : Region.waitsFor .any ops t i = true → ChainR ops t i
  | more {t k i : Nat} : k < t → t < ops.size → Region.waitsFor .any ops t k = true → ChainR ops k i → ChainR ops t i
theorem reachB_mono {ops : Array Oper} : ∀ (f t i : Nat), reachB .any ops f t i = true → reachB .any ops (f + 1) t i = true
  | 0, _, _, h => by simp [reachB] at h
  | f + 1, t, i, h => by
    rw [reachB] at h ⊢
    simp only [Bool.or_eq_true, List.any_eq_true, Bool.and_eq_true, decide_eq_true_eq] at h ⊢
    rcases h with h | ⟨k, h1, h2, h3, h4⟩
    · exact .inl h
    · exact .inr ⟨k, h1, h2, h3, reachB_mono f k i h4⟩
theorem reachB_le {ops : Array Oper} {f g t i : Nat} (hfg : f ≤ g) (h : reachB .any ops f t i = true) : reachB .any ops g t i = true := by
  induction hfg with
  | refl => exact h
  | step _ ih => exact reachB_mono _ _ _ ih
theorem ChainR.reach {ops : Array Oper} {t i : Nat} (h : ChainR ops t i) : reachB .any ops (t + 1) t i = true := by
  induction h with
  | one h => rw [reachB, h]; rfl
  | more hk ht hw _ ih =>
    rw [reachB]
    simp only [Bool.or_eq_true, List.any_eq_true, Bool.and_eq_true, decide_eq_true_eq, List.mem_range]
    exact .inr ⟨_, by omega, hk, hw, reachB_le (by omega) ih⟩
theorem ChainR.then {ops : Array Oper} {t k i : Nat} (h : ChainR ops t k) (hi : i < k) (hk : k < ops.size) (hw : Region.waitsFor .any ops k i = true) (hlow : ∀ t k, Region.waitsFor .any ops t k = true → k < t ∧ t < ops.size) : ChainR ops t i := by
  induction h with
  | one h => exact .more (hlow _ _ h).1 (hlow _ _ h).2 h (.one hw)
  | more h1 h2 h3 _ ih => exact .more h1 h2 h3 (ih hi hk hw)
section
variable {ops : Array Oper} {rows : List (Nat × Option Nat × Nat)}
theorem row_at (hR : ops.toList.map (rowOf ops) = rows) {k : Nat} {o : Oper} (ho : ops[k]? = some o) : rows[k]? = some (rowOf ops o) := by
  rw [← hR, List.getElem?_map, Array.getElem?_toList, ho]; rfl
theorem at_row (hR : ops.toList.map (rowOf ops) = rows) {k : Nat} {y : Nat × Option Nat × Nat} (hy : rows[k]? = some y) : ∃ o, ops[k]? = some o ∧ rowOf ops o = y := by
  rw [← hR, List.getElem?_map, Array.getElem?_toList] at hy
  cases ho : ops[k]? with
  | none => rw [ho] at hy; cases hy
  | some o => rw [ho] at hy; exact ⟨o, rfl, by simpa using hy⟩
theorem bit_row (ops' : Array Oper) (o : Oper) (k : Nat) : (rowOf ops' o).1.testBit k = true ↔ ∃ e ∈ o.after, Region.binds .any e = true ∧ e.on = k := by
  rw [rowOf, mask_spec]
  simp only [List.contains_eq_mem, decide_eq_true_eq, List.mem_map, List.mem_filter, Array.mem_toList_iff]
  constructor
  · rintro ⟨e, ⟨h1, h2⟩, h3⟩; exact ⟨e, h1, h2, h3⟩
  · rintro ⟨e, h1, h2, h3⟩; exact ⟨e, ⟨h1, h2⟩, h3⟩
theorem low_at (hR : ops.toList.map (rowOf ops) = rows) (hl : lowF rows 0 = true) {k : Nat} {o : Oper} (ho : ops[k]? = some o) : ∀ e ∈ o.after, Region.binds .any e = true → e.on < k := by
  intro e he hb
  have h1 := lowF_spec rows 0 hl k _ (row_at hR ho)
  have h2 := (bit_row ops o e.on).2 ⟨e, he, hb, rfl⟩
  rw [Nat.zero_add] at h1
  refine Classical.byContradiction fun hc => ?_
  rw [Nat.testBit_lt_two_pow (Nat.lt_of_lt_of_le h1 (Nat.pow_le_pow_right (by omega) (Nat.le_of_not_lt hc)))] at h2
  cases h2
theorem waits_low (hR : ops.toList.map (rowOf ops) = rows) (hl : lowF rows 0 = true) (t k : Nat) (h : Region.waitsFor .any ops t k = true) : k < t ∧ t < ops.size := by
  obtain ⟨o, ho, e, he, hb, rfl⟩ := Region.waitsFor_spec h
  exact ⟨low_at hR hl ho e he hb, (Array.getElem?_eq_some_iff.1 ho).1⟩
theorem waits_bit (hR : ops.toList.map (rowOf ops) = rows) {t i : Nat} {y : Nat × Option Nat × Nat} (hy : rows[t]? = some y) (h : y.1.testBit i = true) : Region.waitsFor .any ops t i = true := by
  obtain ⟨o, ho, rfl⟩ := at_row hR hy
  obtain ⟨e, he, hb, rfl⟩ := (bit_row ops o i).1 h
  unfold Region.waitsFor
  simp only [ho]
  rw [← Array.any_toList, List.any_eq_true]
  exact ⟨e, by simpa using he, by simp [hb]⟩
theorem cloF_spec (hR : ops.toList.map (rowOf ops) = rows) (hl : lowF rows 0 = true) (t : Nat) : ∀ (k M : Nat), (∀ i, M.testBit i = true → ChainR ops t i) → ∀ i, (cloF rows k M).testBit i = true → ChainR ops t i
  | 0, M, hM, i, h => hM i h
  | k + 1, M, hM, i, h => by
    rw [cloF] at h
    refine cloF_spec hR hl t k _ ?_ i h
    intro j hj
    by_cases hk : M.testBit k = true
    · rw [if_pos hk, Nat.testBit_or, Bool.or_eq_true] at hj
      rcases hj with hj | hj
      · exact hM j hj
      · rw [List.getD_eq_getElem?_getD] at hj
        cases hy : rows[k]? with
        | none => rw [hy] at hj; simp at hj
        | some y =>
          rw [hy] at hj
          have hw := waits_bit hR hy (by simpa using hj)
          have hlow := waits_low hR hl
          exact (hM k hk).then (hlow _ _ hw).1 (hlow _ _ hw).2 hw hlow
    · rw [if_neg hk] at hj; exact hM j hj
def transF (rows : List (Nat × Option Nat × Nat)) (n : Nat) : Bool :=
  (List.range rows.length).all fun t => decide (t < n) || (cloF rows t (rows.getD t (0, none, 0)).1 &&& (2 ^ n - 1)) == 2 ^ n - 1
theorem transF_ok (hR : ops.toList.map (rowOf ops) = rows) (hl : lowF rows 0 = true) {n : Nat} (h : transF rows n = true) : transB .any ops ops.size n [] = true := by
  have hlen : rows.length = ops.size := by rw [← hR]; simp
  simp only [transF, transB, List.all_eq_true, List.mem_range, Bool.or_eq_true, decide_eq_true_eq, beq_iff_eq, hlen] at h ⊢
  intro t ht
  rcases h t ht with h | h
  · exact .inl h
  · refine .inr (.inr fun i hi => .inr ?_)
    have hb : (cloF rows t (rows.getD t (0, none, 0)).1).testBit i = true := by
      have h2 : (2 ^ n - 1).testBit i = true := by rw [Nat.testBit_two_pow_sub_one]; simpa using hi
      rw [← h, Nat.testBit_and, Bool.and_eq_true] at h2
      exact h2.1
    refine reachB_le (by omega) (cloF_spec hR hl t t _ ?_ i hb).reach
    intro j hj
    rw [List.getD_eq_getElem?_getD] at hj
    cases hy : rows[t]? with
    | none => rw [hy] at hj; simp at hj
    | some y => rw [hy] at hj; exact .one (waits_bit hR hy (by simpa using hj))
theorem mem_ready_of (hR : ops.toList.map (rowOf ops) = rows) (hl : lowF rows 0 = true) {L k : Nat} : k ∈ Region.ready .any ops (arrOf ops.size L) ↔ ∃ y, rows[k]? = some y ∧ L.testBit k = false ∧ canF y L = true := by
  simp only [Region.ready, List.mem_filter, List.mem_range, Bool.and_eq_true]
  constructor
  · rintro ⟨hk, h1, h2⟩
    obtain ⟨o, ho⟩ : ∃ o, ops[k]? = some o := ⟨_, Array.getElem?_eq_getElem hk⟩
    refine ⟨_, row_at hR ho, ?_, ?_⟩
    · rw [arrOf_getD, if_pos hk] at h1; simpa using h1
    · rw [canF_spec (n := ops.size) (fun e he hb => Nat.lt_trans (low_at hR hl ho e (by simpa using he) hb) hk)]
      simpa [ho] using h2
  · rintro ⟨y, hy, h1, h2⟩
    obtain ⟨o, ho, rfl⟩ := at_row hR hy
    have hk := (Array.getElem?_eq_some_iff.1 ho).1
    refine ⟨hk, ?_, ?_⟩
    · rw [arrOf_getD, if_pos hk, h1]; rfl
    · rw [canF_spec (n := ops.size) (fun e he hb => Nat.lt_trans (low_at hR hl ho e (by simpa using he) hb) hk)] at h2
      simpa [ho] using h2
theorem ready_nodup (L : Array Bool) : (Region.ready .any ops L).Nodup := List.Nodup.sublist List.filter_sublist List.nodup_range
theorem partF_ok {ops : Array Oper} {x y : Oper} (h : partF (rowOf ops x) (rowOf ops y) = true) : x.apart ops y = true := by
  simp only [partF, rowOf, Bool.and_eq_true] at h
  obtain ⟨h1, h2, h3⟩ := h
  unfold Oper.apart
  cases hx : x.dst with
  | none =>
    cases hy : y.dst with
    | none => rfl
    | some b => rw [hy] at h3; simp only [bitO, mask_spec] at h3; simpa using h3
  | some a =>
    cases hy : y.dst with
    | none => rw [hx] at h1; simp only [bitO, mask_spec] at h1; simpa using h1
    | some b =>
      rw [hx] at h1 h2; rw [hy] at h2 h3
      simp only [bitO, mask_spec, sameO] at h1 h2 h3
      have h2' : ¬ b = a := by simpa using h2
      simp only [h1, h3, Bool.true_and, Bool.and_true]
      simp [h2']
theorem freeF_ok (hR : ops.toList.map (rowOf ops) = rows) {i L : Nat} {x : Nat × Option Nat × Nat} (hx : rows[i]? = some x) (h : freeF x i L rows 0 = true) : Region.free .any ops (arrOf ops.size L) i = true := by
  obtain ⟨oi, hoi, rfl⟩ := at_row hR hx
  unfold Region.free
  simp only [hoi, List.all_eq_true, List.mem_range]
  intro j hj
  obtain ⟨oj, hoj⟩ : ∃ o, ops[j]? = some o := ⟨_, Array.getElem?_eq_getElem hj⟩
  have H := freeF_spec rows 0 h j _ (row_at hR hoj)
  simp only [Nat.zero_add, Bool.or_eq_true, beq_iff_eq] at H
  rw [arrOf_getD, if_pos hj]
  simp only [hoj, Bool.or_eq_true, beq_iff_eq]
  rcases H with H | H | H | H
  · exact .inl (.inr H)
  · obtain ⟨e, he, hb, h3⟩ := (bit_row ops oj i).1 H
    refine .inr (.inl ?_)
    rw [← Array.any_toList, List.any_eq_true]
    exact ⟨e, by simpa using he, by simp [hb, h3]⟩
  · exact .inr (.inr (partF_ok H))
  · exact .inl (.inl H)
theorem planF_ok (hR : ops.toList.map (rowOf ops) = rows) (hl : lowF rows 0 = true) {n g L' : Nat} (hend : Region.seqB .any ops g n (arrOf ops.size L') = true) : ∀ (pl : List (Bool × Nat)) (L : Nat), planF rows n pl L = some L' → planB .any ops n g pl (arrOf ops.size L) = true
  | [], L, h => by
    simp only [planF, Option.some.injEq] at h
    subst h; exact hend
  | (b, i) :: r, L, h => by
    rw [planF] at h
    cases hx : rows[i]? with
    | none => rw [hx] at h; cases h
    | some x =>
      rw [hx] at h
      replace h : (if decide (i < n) && (!L.testBit i && (canF x L && (if b then freeF x i L rows 0 else onlyF i L rows 0))) then planF rows n r (L ||| 2 ^ i) else none) = some L' := h
      by_cases hc : (decide (i < n) && (!L.testBit i && (canF x L && (if b then freeF x i L rows 0 else onlyF i L rows 0)))) = true
      · rw [if_pos hc] at h
        simp only [Bool.and_eq_true, decide_eq_true_eq] at hc
        obtain ⟨hin, h1, h2, h3⟩ := hc
        have h1' : L.testBit i = false := by simpa using h1
        have hr := (mem_ready_of hR hl (L := L) (k := i)).2 ⟨x, hx, h1', h2⟩
        have ih := planF_ok hR hl hend r _ h
        rw [← arrOf_set] at ih
        cases b with
        | true =>
          simp only [planB, Bool.and_eq_true, decide_eq_true_eq]
          exact ⟨hin, by simpa using hr, freeF_ok hR hx (by simpa using h3), ih⟩
        | false =>
          simp only [planB, Bool.and_eq_true, decide_eq_true_eq]
          refine ⟨single_of (ready_nodup _) hr fun j hj => ?_, hin, ih⟩
          obtain ⟨y, hy, hj1, hj2⟩ := (mem_ready_of hR hl).1 hj
          have H := onlyF_spec rows 0 (by simpa using h3) j y hy
          rw [Nat.zero_add, hj1, hj2] at H
          simpa using H
      · rw [if_neg hc] at h; cases h
end
def regPlanF (ops : Array Oper) (rows : List (Nat × Option Nat × Nat)) (pl : List (Bool × Nat)) (n L' : Nat) : Bool :=
  decide (ops.toList.map (rowOf ops) = rows) && (lowF rows 0 && (transF rows n && (Region.noSelect ops && (decide (pl.length = n) && (decide (n ≤ ops.size) && (pl.all (fun x => decide (x.2 < ops.size)) && (decide (planF rows n pl 0 = some L') && Region.seqB .any ops (ops.size - n) n (arrOf ops.size L'))))))))
theorem regPlanF_ok {ops : Array Oper} {rows : List (Nat × Option Nat × Nat)} {pl : List (Bool × Nat)} {n L' : Nat} (h : regPlanF ops rows pl n L' = true) : regPlanB ops [] pl n ops.size = true := by
  simp only [regPlanF, Bool.and_eq_true, decide_eq_true_eq] at h
  obtain ⟨hR, hl, ht, hs, hlen, hn, hlp, hp, he⟩ := h
  have ht' := transF_ok hR hl ht
  have hp' := planF_ok hR hl he pl 0 hp
  rw [← arrOf_zero] at hp'
  have hinv : invB .any ops n (Array.replicate ops.size false) = true := by
    simp only [invB, Bool.and_eq_true, decide_eq_true_eq, List.all_eq_true, List.mem_range, Bool.or_eq_true]
    refine ⟨by simp, ⟨fun j hj => .inl ?_, fun t ht => .inr ?_⟩⟩
    · simp [Array.getD, hj]
    · simp [Array.getD, ht]
  simp only [regPlanB, Bool.and_eq_true, decide_eq_true_eq, preL, prePB]
  exact ⟨hs, by simpa using hlen, hn, ht', by simp, hlp, trivial, hinv, by simp, hp'⟩
end Go.Proofs.YteahiphmhaedpaaGreatDoor
